import Derived.Test.YtmaijpjjopechaaK3
import Derived.Calls
import Derived.Carry
import Derived.ChangeShapes
import Derived.KernelRfl
import Derived.OpenShut
set_option linter.unusedVariables false
set_option linter.unusedSimpArgs false
set_option maxRecDepth 10000
namespace Go.Am.T
attribute [local congr] selV_congr impB_congr
theorem slice_tail {K : Heap} {ob vb len l : Nat} {cells : List V} (ho : K[ob]? = some ⟨vb, .arr cells⟩) (hlen : len ≤ cells.length) (hl : l < len) :
    sliceA (fun o => K[o]?) 1 (.view ob vb 0 len 1 none) (some (.int .i64 (l : Nat))) none none = some (.view ob vb l (len - l) 1 none) := by
  have h1 : (l : Int) ≤ (len : Int) := by omega
  have h0 : (0 : Int) ≤ (l : Int) := by omega
  have h2 : ((l : Nat) : Int).toNat = l := Int.toNat_natCast l
  simp only [sliceA, ↓reduceIte, cellsAt, ho, boundsA, Option.isNone, intOf?, Option.bind_some, h0, h1, h2]
  by_cases e : l = 0
  · subst e; simp
  · simp [e, hl]
theorem copy_eps {K : Heap} {d oe ve : Nat} {cap : Option Nat} {Es Y : List Int} {C : List V} (hd : K[d]? = some ⟨1, .var C⟩) (hC : C.length = 14) (ho : K[oe]? = some ⟨ve, .arr ((Es ++ Y).map (V.int .i64))⟩) (h8 : Es.length ≤ 8) (h1 : 1 ≤ Es.length) :
    copyA (fun o => K[o]?) 1 (.view d 1 1 8 1 (some 8)) (.view oe ve 0 Es.length 1 cap) = some (.set d ⟨1, .var (setRange C 1 (Es.map (V.int .i64)))⟩ (.int .i64 (Es.length : Nat))) := by
  have hm : Nat.min Es.length 8 = Es.length := Nat.min_eq_left h8
  have hl : Es.length ≤ ((Es ++ Y).map (V.int .i64)).length := by simp
  have ht : List.take Es.length ((Es ++ Y).map (V.int .i64)) = Es.map (V.int .i64) := by
    rw [List.map_append, List.take_append_of_le_length (by simp), List.take_of_length_le (by simp)]
  have hl' : Es.length ≤ (Es ++ Y).length := by simp
  have h0 : Es.length ≠ 0 := by omega
  have hs : 1 + Es.length ≤ 14 := by omega
  have := ints_one .i64 Es
  simp only [copyA, lenA, hm, firstA, ↓reduceIte, Nat.le_refl, loadA, cellsAt, ho, Nat.zero_add, Nat.mul_one, hl, hl', List.drop_zero, ht, this, h0, storeA, hd, List.length_map, hC, hs, Ob.with]
theorem fill_step64 {B : List Int} {i : Nat} (hi : (i + 1) * 64 ≤ B.length) : setRange ((B.take (i * 64) ++ List.replicate (B.length - i * 64) 0).map (V.int .u8)) (i * 64) (((B.drop (i * 64)).take 64).map (V.int .u8)) = (B.take ((i + 1) * 64) ++ List.replicate (B.length - (i + 1) * 64) 0).map (V.int .u8) := by
  have hl : ((B.take (i * 64)).map (V.int .u8)).length = i * 64 := by simp; omega
  have hl2 : (((B.drop (i * 64)).take 64).map (V.int .u8)).length = 64 := by simp; omega
  have e1 : B.length - i * 64 = 64 + (B.length - (i + 1) * 64) := by omega
  have e2 : B.take ((i + 1) * 64) = B.take (i * 64) ++ (B.drop (i * 64)).take 64 := by rw [Nat.succ_mul, List.take_add]
  rw [e1, ← List.replicate_append_replicate, e2]
  unfold setRange
  simp only [List.map_append]
  rw [hl2]
  generalize (B.take (i * 64)).map (V.int .u8) = A at hl ⊢
  generalize ((B.drop (i * 64)).take 64).map (V.int .u8) = M at hl2 ⊢
  generalize hZ : (List.replicate 64 (0 : Int)).map (V.int .u8) = Z
  have hZl : Z.length = 64 := by rw [← hZ]; simp
  rw [← hl, List.take_left', List.drop_append, List.drop_eq_nil_of_le (by omega), Nat.add_sub_cancel_left, List.nil_append, List.drop_left' hZl, List.append_assoc]
  rfl
theorem eps_set8 {X : V} {Es : List Int} {R : List V} (h : Es.length ≤ 8) : setRange (X :: ((List.replicate 8 (0 : Int)).map (V.int .i64) ++ R)) 1 (Es.map (V.int .i64)) = X :: ((Es ++ List.replicate (8 - Es.length) 0).map (V.int .i64) ++ R) := by
  unfold setRange
  rw [List.take_succ_cons, List.take_zero, List.length_map, Nat.add_comm, List.drop_succ_cons, List.drop_append_of_le_length (by simpa using h), List.map_replicate, List.drop_replicate]
  simp only [List.map_append, List.map_replicate, List.append_assoc, List.cons_append, List.nil_append]
set_option maxHeartbeats 2000000 in
theorem of_spec {N n : Nat} (hN : 300000 < N) (hn : 4 ≤ n) {H : Heap} {ob vb oe ve : Nat} {cap : Option Nat} {B X Es Y : List Int} (hb : H[ob]? = some ⟨vb, .arr ((B ++ X).map (V.int .u8))⟩) (he : H[oe]? = some ⟨ve, .arr ((Es ++ Y).map (V.int .i64))⟩) (hB : B.length ≤ 300000) (hE : Es.length ≤ 100000) :
    ∃ H', callA am N n 9 [.view ob vb 0 B.length 1 none, .view oe ve 0 Es.length 1 cap] H = some (.tup (bif ofOk B Es then [.ptr (H.length + 1) 1 0, .int .i64 0] else [.nilp, .int .i64 2]), H') ∧ H.length ≤ H'.length ∧ (∀ p, p < H.length → H'[p]? = H[p]?) ∧
      (ofOk B Es = true → DAt H' (H.length + 1) H.length (ofD B Es)) := by
  obtain ⟨n, rfl⟩ : ∃ m, n = m + 1 := ⟨n - 1, by omega⟩
  suffices Hs : ∃ W H', callA am N (n + 1) 9 [.view ob vb 0 B.length 1 none, .view oe ve 0 Es.length 1 cap] H = some (W, H') ∧ W = .tup (bif ofOk B Es then [.ptr (H.length + 1) 1 0, .int .i64 0] else [.nilp, .int .i64 2]) ∧ H.length ≤ H'.length ∧ (∀ p, p < H.length → H'[p]? = H[p]?) ∧
      (ofOk B Es = true → DAt H' (H.length + 1) H.length (ofD B Es)) by
    obtain ⟨W, H', h1, rfl, h2⟩ := Hs
    exact ⟨H', h1, h2⟩
  have em : Int.tmod (B.length : Int) 64 = ((B.length % 64 : Nat) : Int) := by rw [Int.tmod_eq_emod_of_nonneg (by omega)]; omega
  have eq : Int.tdiv (B.length : Int) 64 = ((B.length / 64 : Nat) : Int) := by rw [Int.tdiv_eq_ediv_of_nonneg (by omega)]; omega
  have if64 : ∀ a b : Option V, (if (64 : Int) = 0 then a else b) = b := fun a b => if_neg (by decide)
  have wq : IntKind.i64.wrap ((B.length / 64 : Nat) : Int) = ((B.length / 64 : Nat) : Int) := wrap64 (by omega) (by omega)
  have c30 := @contains_spec N n (by omega) H oe ve cap Es Y he (by omega) hE
  by_cases hm : B.length % 64 = 0
  · have gm : (((B.length % 64 : Nat) : Int) != 0) = false := by rw [hm]; rfl
    cases gb : Es.any badE with
    | true =>
      rw [gb] at c30
      have go : ofOk B Es = false := by rw [ofOk, gb]; simp
      refine call_keep at9 rfl rfl (by decide) (sx_wp ?_)
      simp +contextual -implicitDefEqProofs (maxSteps := 10000000) only [sxb, plainD, stays, ↓selV_wt, ↓selV_wf, ↓impB_wt, ↓impB_wf, ↓selV_nor, ↓impB_nor, ↓selV_nt, ↓selV_nf, ↓impB_nt, ↓impB_nf, ↓selV_true, ↓selV_false, ↓selV_and, ↓impB_true, ↓impB_false, ↓impB_and, ↓prim_pick, ↓selV_nn, ↓impB_nn, doOp, get, ins, del, dels, Nat.reduceLT, Nat.reduceEqDiff, ↓reduceIte, reduceCtorEq, ne_eq, implies_true, prim, YLD, mkA, V.cells, Nat.reduceAdd, Nat.reduceSub, Nat.reduceMul, Nat.reduceLeDiff, loadA, cellsAt, nAg, packA, List.drop, List.take, List.head?, binA, unA, eqCells, eqCell, negB, fillA, storeA, Ob.with, indexedI, V.oneCell, intOf?, resA, resA1, packR, sealDepth, Int.reduceLT, Int.reduceLE, Int.reduceToNat, Int.reduceNeg, Int.reduceAdd, Int.reduceSub, Int.reduceMul, cond_true, cond_false, Int.reduceBNe, Int.reduceBEq, eq_self, deads, List.replicate, argsF, am9, if64, isNil, lenA, em, gm, c30, pm30, List.append_nil, go]
    | false =>
      rw [gb] at c30
      obtain ⟨H1, c15, h1l, h1k, h1r⟩ := @new_spec N n (by omega) ((B.length / 64 : Nat) : Int) (Es.length : Int) H
      cases gn : newOk ((B.length / 64 : Nat) : Int) (Es.length : Int) with
      | false =>
        rw [gn] at c15
        simp only [cond_false] at c15
        have go : ofOk B Es = false := by rw [ofOk, gn]; simp
        refine call_keep at9 rfl rfl (by decide) (sx_wp ?_)
        simp +contextual -implicitDefEqProofs (maxSteps := 10000000) only [sxb, plainD, stays, ↓selV_wt, ↓selV_wf, ↓impB_wt, ↓impB_wf, ↓selV_nor, ↓impB_nor, ↓selV_nt, ↓selV_nf, ↓impB_nt, ↓impB_nf, ↓selV_true, ↓selV_false, ↓selV_and, ↓impB_true, ↓impB_false, ↓impB_and, ↓prim_pick, ↓selV_nn, ↓impB_nn, doOp, get, ins, del, dels, Nat.reduceLT, Nat.reduceEqDiff, ↓reduceIte, reduceCtorEq, ne_eq, implies_true, prim, YLD, mkA, V.cells, Nat.reduceAdd, Nat.reduceSub, Nat.reduceMul, Nat.reduceLeDiff, loadA, cellsAt, nAg, packA, List.drop, List.take, List.head?, binA, unA, eqCells, eqCell, negB, fillA, storeA, Ob.with, indexedI, V.oneCell, intOf?, resA, resA1, packR, sealDepth, Int.reduceLT, Int.reduceLE, Int.reduceToNat, Int.reduceNeg, Int.reduceAdd, Int.reduceSub, Int.reduceMul, cond_true, cond_false, Int.reduceBNe, Int.reduceBEq, eq_self, deads, List.replicate, argsF, am9, if64, isNil, lenA, em, eq, wq, gm, c30, pm30, c15, List.append_nil, go]
        exact ⟨by omega, h1k⟩
      | true =>
        obtain ⟨n1, n2, n3, n4⟩ := newOk_true gn
        obtain ⟨-, h1e⟩ := h1r gn
        rw [gn] at c15
        simp only [cond_true] at c15
        rw [newD_flat, Int.toNat_natCast, Int.toNat_natCast] at h1e
        have e64 : B.length / 64 * 64 = B.length := by omega
        rw [e64] at h1e
        have go : ofOk B Es = true := by rw [ofOk, gn, hm, gb]; rfl
        obtain ⟨Xv, hXv⟩ : ∃ Xv : V, Xv = .view H.length 1 0 (B.length / 64) 64 (some (B.length / 64)) := ⟨_, rfl⟩
        obtain ⟨C0, hC0⟩ : ∃ C0 : List V, C0 = (newD (B.length / 64) Es.length).cs Xv := ⟨_, rfl⟩
        have h1e : H1 = H ++ [⟨1, .arr ((List.replicate B.length 0).map (V.int .u8))⟩, ⟨1, .var C0⟩] := by rw [h1e, hC0, hXv]
        have lC0 : C0.length = 14 := by rw [hC0]; exact dv_len rfl
        have hs8 := @eps_set8 Xv Es [.int .i64 (Es.length : Int), .bool false, .int .i64 0, .bool false, .int .i64 0] (by omega)
        have hC1 : setRange C0 1 (Es.map (V.int .i64)) = (ofD B Es).cs Xv := by rw [hC0]; exact hs8
        have okD := ofD_ok go
        have lC1 : ((ofD B Es).cs Xv).length = 14 := dv_len okD.e8
        have tC1 : List.take 1 ((ofD B Es).cs Xv) = [Xv] := rfl
        have hc : (chunks B).length = B.length / 64 := by simp [chunks]
        have lF : ((List.replicate B.length (0 : Int)).map (V.int .u8)).length = B.length := by simp
        subst h1e
        have cp := @copy_eps (H ++ [⟨1, .arr ((List.replicate B.length 0).map (V.int .u8))⟩, ⟨1, .var C0⟩]) (H.length + 1) oe ve cap Es Y C0 (by rw [app_get]; rfl) lC0 (by rw [List.getElem?_append_left (lt_of_get he)]; exact he) (by omega) (by omega)
        rw [hC1] at cp
        refine call_keep at9 rfl rfl (by decide) (sx_wp ?_)
        generalize hC1v : (ofD B Es).cs Xv = C1 at *
        simp +contextual -implicitDefEqProofs (maxSteps := 10000000) only [sxb, plainD, stays, ↓selV_wt, ↓selV_wf, ↓impB_wt, ↓impB_wf, ↓selV_nor, ↓impB_nor, ↓selV_nt, ↓selV_nf, ↓impB_nt, ↓impB_nf, ↓selV_true, ↓selV_false, ↓selV_and, ↓impB_true, ↓impB_false, ↓impB_and, ↓prim_pick, ↓selV_nn, ↓impB_nn, doOp, get, ins, del, dels, Nat.reduceLT, Nat.reduceEqDiff, ↓reduceIte, reduceCtorEq, ne_eq, implies_true, prim, YLD, mkA, V.cells, Nat.reduceAdd, Nat.reduceSub, Nat.reduceMul, Nat.reduceLeDiff, loadA, cellsAt, nAg, packA, List.drop, List.take, List.head?, binA, unA, eqCells, eqCell, negB, fillA, storeA, Ob.with, indexedI, V.oneCell, intOf?, resA, resA1, packR, sealDepth, Int.reduceLT, Int.reduceLE, Int.reduceToNat, Int.reduceNeg, Int.reduceAdd, Int.reduceSub, Int.reduceMul, cond_true, cond_false, Int.reduceBNe, Int.reduceBEq, eq_self, deads, List.replicate, argsF, am9, if64, isNil, lenA, em, eq, wq, gm, c30, pm30, c15, List.append_nil, boundsA, Option.isNone, app_get0, app_get, app_set0, app_set, lC0, cp, lC1, tC1, hXv]
        refine sx_loop (fun i t K => i ≤ B.length / 64 ∧ t = fr 57 [(0, .view ob vb 0 B.length 1 none), (6, .ptr (H.length + 1) 1 0), (39, .int .i64 ((B.length / 64 : Nat) : Int)), (40, .int .i64 i)] ∧
          K = H ++ [⟨1, .arr ((B.take (i * 64) ++ List.replicate (B.length - i * 64) 0).map (V.int .u8))⟩, ⟨1, .var C1⟩]) (B.length / 64) (by show B.length / 64 < N; omega) ⟨Nat.zero_le _, rfl, by simp⟩ ?_
        rintro i t K hi ⟨hi', rfl, rfl⟩
        by_cases hlt : i < B.length / 64
        · have g1 : decide ((i : Int) < ((B.length / 64 : Nat) : Int)) = true := decide_eq_true (by omega)
          have w4 : IntKind.i64.wrap ((i : Int) + 1) = ((i + 1 : Nat) : Int) := (wrap64 (by omega) (by omega)).trans (by omega)
          have w6 : IntKind.i64.wrap ((i : Int) * 64) = ((i * 64 : Nat) : Int) := (wrap64 (by omega) (by omega)).trans (by omega)
          have hi1 : i + 1 ≤ B.length / 64 := by omega
          have i0 : (0 : Int) ≤ (i : Int) := by omega
          have i1 : (i : Int) < ((B.length / 64 : Nat) : Int) := by omega
          have hbK : (H ++ [⟨1, .arr ((B.take (i * 64) ++ List.replicate (B.length - i * 64) 0).map (V.int .u8))⟩, ⟨1, .var C1⟩] : Heap)[ob]? = some ⟨vb, .arr ((B ++ X).map (V.int .u8))⟩ := by rw [List.getElem?_append_left (lt_of_get hb)]; exact hb
          have lB : ((B ++ X).map (V.int .u8)).length = B.length + X.length := by simp
          have sl := @slice_tail _ ob vb B.length (i * 64) _ hbK (by omega) (by omega)
          have s64 : 64 ≤ B.length - i * 64 := by omega
          have le : i * 64 + 64 ≤ B.length + X.length := by omega
          have le2 : i * 64 + 64 ≤ B.length := by omega
          have tk : List.take 64 (List.drop (i * 64) ((B ++ X).map (V.int .u8))) = ((B.drop (i * 64)).take 64).map (V.int .u8) := by
            rw [← List.map_drop, ← List.map_take, List.drop_append_of_le_length (by omega), List.take_append_of_le_length (by rw [List.length_drop]; omega)]
          have fs := @fill_step64 B i (by omega)
          have l64 : (((B.drop (i * 64)).take 64).map (V.int .u8)).length = 64 := by simp; omega
          have o64 := ints_one .u8 ((B.drop (i * 64)).take 64)
          have el : ((B.take (i * 64) ++ List.replicate (B.length - i * 64) 0).map (V.int .u8)).length = B.length := by simp; omega
          generalize (B.take (i * 64) ++ List.replicate (B.length - i * 64) 0).map (V.int .u8) = Ei at *
          generalize ((B.drop (i * 64)).take 64).map (V.int .u8) = as at *
          generalize (B ++ X).map (V.int .u8) = F at *
          simp +contextual -implicitDefEqProofs (maxSteps := 10000000) only [sxb, plainD, stays, ↓selV_wt, ↓selV_wf, ↓impB_wt, ↓impB_wf, ↓selV_nor, ↓impB_nor, ↓selV_nt, ↓selV_nf, ↓impB_nt, ↓impB_nf, ↓selV_true, ↓selV_false, ↓selV_and, ↓impB_true, ↓impB_false, ↓impB_and, ↓prim_pick, ↓selV_nn, ↓impB_nn, doOp, get, ins, del, dels, Nat.reduceLT, Nat.reduceEqDiff, ↓reduceIte, reduceCtorEq, ne_eq, implies_true, prim, YLD, mkA, V.cells, Nat.reduceAdd, Nat.reduceSub, Nat.reduceMul, Nat.reduceLeDiff, loadA, cellsAt, nAg, packA, List.drop, List.take, List.head?, binA, unA, eqCells, eqCell, negB, fillA, storeA, Ob.with, indexedI, V.oneCell, intOf?, resA, resA1, packR, sealDepth, Int.reduceLT, Int.reduceLE, Int.reduceToNat, Int.reduceNeg, Int.reduceAdd, Int.reduceSub, Int.reduceMul, cond_true, cond_false, Int.reduceBNe, Int.reduceBEq, eq_self, deads, List.replicate, argsF, g1, app_get0, app_get, app_set0, app_set, lC1, tC1, hXv, w6, sl, s2apA, s64, hbK, lB, le, le2, tk, l64, o64, iaddrSA, i0, i1, el, fs, Int.toNat_natCast, w4, hi1, hlt]
        · have e8 : i = B.length / 64 := by omega
          subst e8
          have g1 : decide (((B.length / 64 : Nat) : Int) < ((B.length / 64 : Nat) : Int)) = false := decide_eq_false (by omega)
          have eB : B.take (B.length / 64 * 64) ++ List.replicate (B.length - B.length / 64 * 64) 0 = B := by rw [e64, List.take_length, Nat.sub_self]; simp
          rw [eB]
          simp +contextual -implicitDefEqProofs (maxSteps := 10000000) only [sxb, plainD, stays, ↓selV_wt, ↓selV_wf, ↓impB_wt, ↓impB_wf, ↓selV_nor, ↓impB_nor, ↓selV_nt, ↓selV_nf, ↓impB_nt, ↓impB_nf, ↓selV_true, ↓selV_false, ↓selV_and, ↓impB_true, ↓impB_false, ↓impB_and, ↓prim_pick, ↓selV_nn, ↓impB_nn, doOp, get, ins, del, dels, Nat.reduceLT, Nat.reduceEqDiff, ↓reduceIte, reduceCtorEq, ne_eq, implies_true, prim, YLD, mkA, V.cells, Nat.reduceAdd, Nat.reduceSub, Nat.reduceMul, Nat.reduceLeDiff, loadA, cellsAt, nAg, packA, List.drop, List.take, List.head?, binA, unA, eqCells, eqCell, negB, fillA, storeA, Ob.with, indexedI, V.oneCell, intOf?, resA, resA1, packR, sealDepth, Int.reduceLT, Int.reduceLE, Int.reduceToNat, Int.reduceNeg, Int.reduceAdd, Int.reduceSub, Int.reduceMul, cond_true, cond_false, Int.reduceBNe, Int.reduceBEq, eq_self, deads, List.replicate, argsF, g1, go]
          refine ⟨by simp, fun p hp => List.getElem?_append_left hp, ?_⟩
          refine ⟨okD, ⟨1, some (B.length / 64), ?_, ?_⟩, by omega⟩
          · rw [app_get, show (ofD B Es).S.length = B.length / 64 from hc, ← hC1v, hXv]; rfl
          · rw [app_get0, show (ofD B Es).S.flatten = B from chunks_flat hm]; rfl
  · have gm : (((B.length % 64 : Nat) : Int) != 0) = true := by simp; omega
    have go : ofOk B Es = false := by simp [ofOk, hm]
    refine call_keep at9 rfl rfl (by decide) (sx_wp ?_)
    simp +contextual -implicitDefEqProofs (maxSteps := 10000000) only [sxb, plainD, stays, ↓selV_wt, ↓selV_wf, ↓impB_wt, ↓impB_wf, ↓selV_nor, ↓impB_nor, ↓selV_nt, ↓selV_nf, ↓impB_nt, ↓impB_nf, ↓selV_true, ↓selV_false, ↓selV_and, ↓impB_true, ↓impB_false, ↓impB_and, ↓prim_pick, ↓selV_nn, ↓impB_nn, doOp, get, ins, del, dels, Nat.reduceLT, Nat.reduceEqDiff, ↓reduceIte, reduceCtorEq, ne_eq, implies_true, prim, YLD, mkA, V.cells, Nat.reduceAdd, Nat.reduceSub, Nat.reduceMul, Nat.reduceLeDiff, loadA, cellsAt, nAg, packA, List.drop, List.take, List.head?, binA, unA, eqCells, eqCell, negB, fillA, storeA, Ob.with, indexedI, V.oneCell, intOf?, resA, resA1, packR, sealDepth, Int.reduceLT, Int.reduceLE, Int.reduceToNat, Int.reduceNeg, Int.reduceAdd, Int.reduceSub, Int.reduceMul, cond_true, cond_false, Int.reduceBNe, Int.reduceBEq, eq_self, deads, List.replicate, argsF, am9, if64, isNil, lenA, em, gm, pm30, List.append_nil, go]
end Go.Am.T


set_option linter.unusedVariables false
set_option linter.unusedSimpArgs false
namespace Go.Am
def InV (S : Nat → Prop) (v : V) : Prop := ∀ o ∈ v.objs, S o
def InL (S : Nat → Prop) (l : List V) : Prop := ∀ v ∈ l, InV S v
section
variable {S : Nat → Prop}
theorem mem_objsL' : ∀ {l : List V} {o : Nat}, o ∈ V.objsL l → ∃ c ∈ l, o ∈ c.objs
  | [], o, h => by cases h
  | v :: l, o, h => by
    have h' : o ∈ v.objs ++ V.objsL l := h
    rcases List.mem_append.1 h' with h | h
    · exact ⟨v, by simp, h⟩
    · obtain ⟨c, h1, h2⟩ := mem_objsL' h
      exact ⟨c, by simp [h1], h2⟩
theorem inL_iff {l : List V} : InL S l ↔ ∀ o ∈ V.objsL l, S o := by
  constructor
  · intro h o ho
    obtain ⟨c, h1, h2⟩ := mem_objsL' ho
    exact h c h1 o h2
  · intro h c hc o ho
    exact h o (mem_objsL hc o ho)
theorem inV_nil {v : V} (h : v.objs = []) : InV S v := fun o ho => by rw [h] at ho; cases ho
mutual
theorem free_objs : ∀ (v : V), v.free = true → v.objs = []
  | .junk, _ | .bool _, _ | .int .., _ | .str _, _ | .nilp, _ | .nils, _ | .nilm, _ | .nilf, _ | .nili, _ => rfl
  | .ptr .., h | .view .., h | .vend .., h | .map .., h | .yld .., h => by simp [V.free] at h
  | .iptr cs _, h => by simp only [V.objs]; exact free_objsL cs (by simpa [V.free] using h)
  | .sl L _ _, h => by simp only [V.objs]; exact free_objsL L (by simpa [V.free] using h)
  | .func _ xs ys, h => by
    simp only [V.free, Bool.and_eq_true] at h
    simp only [V.objs, free_objsL xs h.1, free_objsL ys h.2, List.append_nil]
  | .iface _ v, h => by simp only [V.objs]; exact free_objs v (by simpa [V.free] using h)
  | .agg cs, h => by simp only [V.objs]; exact free_objsL cs (by simpa [V.free] using h)
  | .tup cs, h => by simp only [V.objs]; exact free_objsL cs (by simpa [V.free] using h)
  termination_by structural v => v
theorem free_objsL : ∀ (l : List V), V.freeL l = true → V.objsL l = []
  | [], _ => rfl
  | v :: l, h => by
    simp only [V.freeL, Bool.and_eq_true] at h
    simp only [V.objsL, free_objs v h.1, free_objsL l h.2, List.append_nil]
  termination_by structural l => l
end
theorem inV_free {v : V} (h : v.free = true) : InV S v := inV_nil (free_objs v h)
theorem inL_free {l : List V} (h : V.freeL l = true) : InL S l := inL_iff.2 fun o ho => by rw [free_objsL l h] at ho; cases ho
theorem InL.sub {l m : List V} (h : InL S l) (hs : ∀ v ∈ m, v ∈ l) : InL S m := fun v hv => h v (hs v hv)
theorem InL.take {l : List V} (h : InL S l) (n : Nat) : InL S (l.take n) := h.sub fun v hv => List.mem_of_mem_take hv
theorem InL.drop {l : List V} (h : InL S l) (n : Nat) : InL S (l.drop n) := h.sub fun v hv => List.mem_of_mem_drop hv
theorem InL.app {l m : List V} (h1 : InL S l) (h2 : InL S m) : InL S (l ++ m) := fun v hv => by
  rcases List.mem_append.1 hv with h | h
  · exact h1 v h
  · exact h2 v h
theorem InL.cons {v : V} {l : List V} (h1 : InV S v) (h2 : InL S l) : InL S (v :: l) := fun u hu => by
  rcases List.mem_cons.1 hu with rfl | h
  · exact h1
  · exact h2 u h
theorem inL_nil : InL S [] := fun v hv => by cases hv
theorem InV.agg {l : List V} (h : InL S l) : InV S (.agg l) := fun o ho => inL_iff.1 h o (by simpa [V.objs] using ho)
theorem InV.tup {l : List V} (h : InL S l) : InV S (.tup l) := fun o ho => inL_iff.1 h o (by simpa [V.objs] using ho)
theorem InV.sl {l : List V} {s : Nat} {c : Option Nat} (h : InL S l) : InV S (.sl l s c) := fun o ho => inL_iff.1 h o (by simpa [V.objs] using ho)
theorem InV.iptr {l : List V} {f : Nat} (h : InL S l) : InV S (.iptr l f) := fun o ho => inL_iff.1 h o (by simpa [V.objs] using ho)
theorem InV.agg' {l : List V} (h : InV S (.agg l)) : InL S l := inL_iff.2 fun o ho => h o (by simpa [V.objs] using ho)
theorem InV.tup' {l : List V} (h : InV S (.tup l)) : InL S l := inL_iff.2 fun o ho => h o (by simpa [V.objs] using ho)
theorem InV.sl' {l : List V} {s : Nat} {c : Option Nat} (h : InV S (.sl l s c)) : InL S l := inL_iff.2 fun o ho => h o (by simpa [V.objs] using ho)
theorem InV.iptr' {l : List V} {f : Nat} (h : InV S (.iptr l f)) : InL S l := inL_iff.2 fun o ho => h o (by simpa [V.objs] using ho)
theorem InV.cells {v : V} (h : InV S v) : InL S v.cells := by
  cases v <;> first | exact h.agg' | exact InL.cons h inL_nil
theorem inL_flat {l : List V} (h : InL S l) : InL S (l.flatMap V.cells) := fun v hv => by
  obtain ⟨e, h1, h2⟩ := List.mem_flatMap.1 hv
  exact (h e h1).cells v h2
theorem inV_wrap {l : List V} (h : InL S l) : InV S (wrapV l) := by
  unfold wrapV
  split
  · exact h _ (by simp)
  · exact .agg h
theorem inV_pack {ag : Option Nat} {cs : List V} {v : V} (h : InL S cs) (hp : packA ag cs = some v) : InV S v := by
  unfold packA at hp
  split at hp
  · cases hp; exact .agg h
  · exact h v (List.mem_of_mem_head? hp)
theorem inL_set {a b : List V} {n : Nat} (h1 : InL S a) (h2 : InL S b) : InL S (setRange a n b) := ((h1.take n).app h2).app (h1.drop _)
theorem inL_fill : ∀ {ps : List (Nat × Nat × V)} {cs ds : List V}, InL S cs → (∀ p ∈ ps, InV S p.2.2) → fillA cs ps = some ds → InL S ds
  | [], cs, ds, h, _, hf => by simp [fillA] at hf; subst hf; exact h
  | (o, n, v) :: ps, cs, ds, h, hp, hf => by
    simp only [fillA] at hf
    have hv := hp _ (by simp : (o, n, v) ∈ (o, n, v) :: ps)
    split at hf
    · cases hf
    · split at hf
      · split at hf
        · exact inL_fill (inL_set h hv.cells) (fun p hp' => hp p (by simp [hp'])) hf
        · cases hf
      · cases hf
def InG (S : Nat → Prop) (get : Nat → Option Ob) : Prop := ∀ o x, get o = some x → ∀ i ∈ x.bd.objs, S i
theorem inL_cellsAt {get : Nat → Option Ob} (hg : InG S get) {o ver : Nat} {cs : List V} (h : cellsAt get o ver = some cs) : InL S cs := by
  unfold cellsAt at h
  split at h
  · rename_i v cs' he
    split at h
    · cases h; exact inL_iff.2 fun i hi => hg o _ he i hi
    · cases h
  · rename_i v cs' he
    split at h
    · cases h; exact inL_iff.2 fun i hi => hg o _ he i hi
    · cases h
  · cases h
theorem inL_loadA {get : Nat → Option Ob} (hg : InG S get) {n : Nat} {p : V} (hp : InV S p) {cs : List V} (h : loadA get n p = some cs) : InL S cs := by
  unfold loadA at h
  split at h
  · split at h
    · rename_i all hc
      split at h
      · cases h; exact ((inL_cellsAt hg hc).drop _).take _
      · cases h
    · cases h
  · split at h
    · cases h; exact (hp.iptr'.drop _).take _
    · cases h
  · cases h
theorem inL_firstA {get : Nat → Option Ob} (hg : InG S get) {s n : Nat} {p : V} (hp : InV S p) {cs : List V} (h : firstA get s n p = some cs) : InL S cs := by
  cases p <;> simp only [firstA, reduceCtorEq] at h
  case nils => split at h <;> cases h; exact inL_nil
  case vend o ver s' =>
    split at h
    · split at h <;> cases h; exact inL_nil
    · cases h
  case view o ver off len s' cap =>
    split at h
    · split at h
      · exact inL_loadA hg (p := .ptr o ver off) (fun i hi => hp i (by simpa [V.objs] using hi)) h
      · cases h
    · cases h
  case sl L s' cap =>
    split at h
    · split at h
      · cases h; exact inL_flat (hp.sl'.take _)
      · cases h
    · cases h
  case str b =>
    split at h
    · split at h
      · cases h
        intro v hv
        obtain ⟨x, -, rfl⟩ := List.mem_map.1 hv
        exact inV_nil rfl
      · cases h
    · cases h
theorem binA_objs {op : BinOp} {a b v : V} (h : binA op a b = some v) : v.objs = [] := by
  unfold binA at h
  repeat' split at h
  all_goals first | (cases h; rfl) | (cases h; done) | skip
theorem unA_objs {op : UnOp} {a v : V} (h : unA op a = some v) : v.objs = [] := by
  unfold unA at h
  repeat' split at h
  all_goals first | (cases h; rfl) | (cases h; done)
theorem mmA_objs {mx : Bool} {a b v : V} (h : mmA mx a b = some v) : v.objs = [] := by
  unfold mmA at h
  split at h
  · cases h; rfl
  · cases h
def Bd.plainBd : Bd → Bool
  | .loop .. => false
  | _ => true
def Eff.inV (S : Nat → Prop) : Eff → Prop
  | .ret v => InV S v
  | .set o x v => InV S v ∧ (∀ i ∈ x.bd.objs, S i) ∧ x.bd.plainBd = true
theorem inV_ptr {o ver off : Nat} (h : S o) : InV S (.ptr o ver off) := fun i hi => by simp [V.objs] at hi; subst hi; exact h
theorem inV_view {o ver off len s : Nat} {cap : Option Nat} (h : S o) : InV S (.view o ver off len s cap) := fun i hi => by simp [V.objs] at hi; subst hi; exact h
theorem inV_vend {o ver s : Nat} (h : S o) : InV S (.vend o ver s) := fun i hi => by simp [V.objs] at hi; subst hi; exact h
theorem inV_map {o ver : Nat} (h : S o) : InV S (.map o ver) := fun i hi => by simp [V.objs] at hi; subst hi; exact h
theorem mkA_in {get : Nat → Option Ob} {o : Nat} {bd : Bd} {v : Nat → V} {eff : Eff} (h : mkA get o bd v = some eff) (hb : ∀ i ∈ bd.objs, S i) (hv : ∀ n, InV S (v n)) (hl : bd.plainBd = true := by rfl) : eff.inV S := by
  unfold mkA at h
  split at h
  · cases h; exact ⟨hv _, hb, hl⟩
  · cases h
theorem arr_in {l : List V} (h : InL S l) : ∀ i ∈ (Bd.arr l).objs, S i := fun i hi => inL_iff.1 h i hi
theorem var_in {l : List V} (h : InL S l) : ∀ i ∈ (Bd.var l).objs, S i := fun i hi => inL_iff.1 h i hi
theorem with_in {x : Ob} {l : List V} (hx : ∀ i ∈ x.bd.objs, S i) (h : InL S l) : ∀ i ∈ (x.with l).bd.objs, S i := by
  unfold Ob.with
  split
  · exact var_in h
  · exact arr_in h
  · exact hx
theorem storeA_in {get : Nat → Option Ob} (hg : InG S get) {o ver off : Nat} {new : List V} {v : V} {eff : Eff} (h : storeA get o ver off new v = some eff) (hn : InL S new) (hv : InV S v) : eff.inV S := by
  unfold storeA at h
  split at h
  · rename_i cs x hc hx
    split at h
    · cases h
      refine ⟨hv, with_in (hg o x hx) (inL_set (inL_cellsAt hg hc) hn), ?_⟩
      unfold cellsAt at hc
      rw [hx] at hc
      obtain ⟨v0, bd⟩ := x
      cases bd <;> simp at hc <;> rfl
    · cases h
  · cases h
theorem sliceA_in {get : Nat → Option Ob} {s : Nat} {x : V} (hx : InV S x) {lo hi mx : Option V} {v : V} (h : sliceA get s x lo hi mx = some v) : InV S v := by
  cases x <;> simp only [sliceA, reduceCtorEq] at h
  case nils => simp only [Option.map_eq_some_iff] at h; obtain ⟨_, -, rfl⟩ := h; exact inV_nil rfl
  case vend o ver s' =>
    split at h
    · simp only [Option.map_eq_some_iff] at h; obtain ⟨_, -, rfl⟩ := h; exact fun i hi => hx i (by simpa [V.objs] using hi)
    · cases h
  case view o ver off len s' cap =>
    have ho : S o := hx o (by simp [V.objs])
    cases cap with
    | some c =>
      simp only [sliceA] at h
      split at h
      · simp only [Option.map_eq_some_iff] at h; obtain ⟨⟨l, k, m⟩, -, rfl⟩ := h; exact inV_view ho
      · cases h
    | none =>
      simp only [sliceA] at h
      split at h
      · split at h
        · split at h
          · simp only [Option.bind_eq_some_iff] at h
            obtain ⟨⟨l, k, m⟩, -, h⟩ := h
            simp only at h
            split at h
            · cases h; exact inV_view ho
            · split at h
              · cases h; exact inV_view ho
              · cases h; exact inV_vend ho
          · simp only [Option.map_eq_some_iff] at h; obtain ⟨⟨l, k, m⟩, -, rfl⟩ := h; exact inV_view ho
        · cases h
      · cases h
  case sl L s' cap =>
    cases cap with
    | some c =>
      simp only [sliceA] at h
      split at h
      · simp only [Option.bind_eq_some_iff] at h
        obtain ⟨⟨l, k, m⟩, -, h⟩ := h
        simp only at h
        split at h
        · cases h; exact .sl ((hx.sl'.take _).drop _)
        · cases h
      · cases h
    | none =>
      simp only [sliceA] at h
      split at h
      · simp only [Option.map_eq_some_iff] at h; obtain ⟨⟨l, k, m⟩, -, rfl⟩ := h; exact .sl ((hx.sl'.take _).drop _)
      · cases h
theorem appendA_in {get : Nat → Option Ob} (hg : InG S get) {o s b : Nat} (ho : S o) {x y : V} (hx : InV S x) (hy : InV S y) {eff : Eff} (h : appendA get o s b x y = some eff) : eff.inV S := by
  unfold appendA at h
  split at h
  · cases h
  rename_i n hn
  split at h
  · cases h
  rename_i new hf
  have hnew := inL_firstA hg hy hf
  split at h
  case isFalse => cases h
  have hxo : ∀ i ∈ x.objs, S i := hx
  split at h
  · split at h
    · cases h; exact inV_nil rfl
    · split at h
      · exact mkA_in h (arr_in hnew) fun v => inV_view ho
      · cases h
  · rename_i L s' c
    split at h
    · split at h
      · cases h; exact hx
      · split at h
        · split at h
          · exact mkA_in h (arr_in ((inL_flat hx.sl').app hnew)) fun v => inV_view ho
          · cases h
        · cases h
    · cases h
  · rename_i o' ver s'
    have ho' : S o' := hx o' (by simp [V.objs])
    split at h
    · split at h
      · cases h
      · split at h
        · cases h; exact hx
        · split at h
          · cases h; exact ⟨inV_view ho', arr_in hnew, rfl⟩
          · cases h
    · cases h
  · rename_i o' ver off len s' cap
    have ho' : S o' := hx o' (by simp [V.objs])
    split at h
    · split at h
      · cases h
      · rename_i cs hc
        have hcs := inL_cellsAt hg hc
        split at h
        · cases h; exact hx
        · split at h
          · split at h
            · split at h
              · exact storeA_in hg h hnew (inV_view ho')
              · split at h
                · exact mkA_in h (arr_in (((hcs.drop _).take _).app hnew)) fun v => inV_view ho
                · cases h
            · split at h
              · split at h
                · cases h; exact ⟨inV_view ho', arr_in ((hcs.drop _).app hnew), rfl⟩
                · cases h
              · exact storeA_in hg h hnew (inV_view ho')
          · cases h
    · cases h
  · cases h
theorem copyA_in {get : Nat → Option Ob} (hg : InG S get) {s : Nat} {x y : V} (hx : InV S x) (hy : InV S y) {eff : Eff} (h : copyA get s x y = some eff) : eff.inV S := by
  unfold copyA at h
  split at h
  case h_2 => cases h
  simp only at h
  split at h
  · cases h
  rename_i new hf
  have hnew := inL_firstA hg hy hf
  split at h
  case isFalse => cases h
  split at h
  · cases h; exact inV_nil rfl
  · cases h; exact inV_nil rfl
  · split at h
    · split at h
      · cases h; exact inV_nil rfl
      · exact storeA_in hg h hnew (inV_nil rfl)
    · cases h
  · cases h
theorem mapAt_in {get : Nat → Option Ob} (hg : InG S get) {o ver : Nat} {es : List (V × V)} (h : mapAt get o ver = some es) : ∀ e ∈ es, InV S e.1 ∧ InV S e.2 := by
  unfold mapAt at h
  split at h
  · rename_i v es' he
    split at h
    · cases h
      have := hg o _ he
      intro e hm
      exact ⟨fun i hi => this i (List.mem_flatMap.2 ⟨e, hm, by simp [hi]⟩), fun i hi => this i (List.mem_flatMap.2 ⟨e, hm, by simp [hi]⟩)⟩
    · cases h
  · cases h
theorem map_in {es : List (V × V)} (h : ∀ e ∈ es, InV S e.1 ∧ InV S e.2) : ∀ i ∈ (Bd.map es).objs, S i := by
  intro i hi
  obtain ⟨e, he, hi⟩ := List.mem_flatMap.1 hi
  rcases List.mem_append.1 hi with hi | hi
  · exact (h e he).1 i hi
  · exact (h e he).2 i hi
theorem okV_in {ok b : Bool} {v : V} (h : InV S v) : InV S (okV ok v b) := by
  unfold okV
  cases ok
  · exact h
  · exact .tup (.cons h (.cons (inV_nil rfl) inL_nil))
def cleanO (x : Opd) : Bool := match x with | .cst v => v.free | .tmp _ => true
def AOp.clean (op : AOp) : Bool :=
  op.opds.all cleanO && match op with
  | .allocz _ z | .build z _ | .bslice z _ _ _ | .clearS _ z _ | .bnew _ z _ _ _ | .mkslice _ z _ _ _ _ => V.freeL z
  | .mget _ _ z _ _ _ => z.free
  | _ => true
theorem inV_ev {t : List V} (ht : InL S t) {x : Opd} (hx : cleanO x = true) : InV S (ev t x) := by
  cases x with
  | cst v => exact inV_free hx
  | tmp i =>
    simp only [ev, List.getD_eq_getElem?_getD]
    cases h : t[i]? with
    | none => exact inV_nil rfl
    | some v => exact ht v (List.mem_of_getElem? h)
theorem inL_chunks {cs : List V} (h : InL S cs) (n : Nat) (f : Nat → Nat) (s : Nat) : InL S ((List.range n).map fun i => wrapV ((cs.drop (f i)).take s)) := fun v hv => by
  obtain ⟨i, -, rfl⟩ := List.mem_map.1 hv
  exact inV_wrap ((h.drop _).take _)
theorem fold_mm : ∀ {l : List V} {a v : V} {mx : Bool}, InV S a → l.foldlM (mmA mx) a = some v → InV S v
  | [], a, v, mx, h, hf => by simp at hf; subst hf; exact h
  | x :: l, a, v, mx, h, hf => by
    simp only [List.foldlM_cons, Option.bind_eq_bind, Option.bind_eq_some_iff] at hf
    obtain ⟨b, hb, hf⟩ := hf
    exact fold_mm (inV_nil (mmA_objs hb)) hf
theorem prim_in {fb : Nat} {t : List V} (ht : InL S t) {get : Nat → Option Ob} (hg : InG S get) (hs : ∀ i, fb ≤ i → S i) {op : AOp} (hc : op.clean = true) {eff : Eff} (h : prim fb (ev t) get op = some eff) : eff.inV S := by
  unfold AOp.clean at hc
  simp only [Bool.and_eq_true, List.all_eq_true] at hc
  obtain ⟨hc, hz⟩ := hc
  have e : ∀ x ∈ op.opds, InV S (ev t x) := fun x hx => inV_ev ht (hc x hx)
  have st : ∀ s, S (fb + s) := fun s => hs _ (by omega)
  cases op <;> simp only [AOp.opds, List.mem_cons, List.not_mem_nil, or_false, forall_eq_or_imp, forall_eq] at e <;> simp only [prim] at h
  case move x => cases h; exact e
  case pick c a b =>
    split at h
    · rename_i tt _; cases h; cases tt
      · exact e.2.2
      · exact e.2.1
    · cases h
  case allocz s z => exact mkA_in h (var_in (inL_free hz)) fun v => inV_ptr (st s)
  case box s x =>
    split at h
    · cases h
    · exact mkA_in h (var_in e.cells) fun v => inV_ptr (st s)
  case build z ps =>
    simp only [Option.map_eq_some_iff] at h
    obtain ⟨cs, hf, rfl⟩ := h
    refine .agg (inL_fill (inL_free hz) (fun p hp => ?_) hf)
    obtain ⟨q, hq, rfl⟩ := List.mem_map.1 hp
    exact e _ (List.mem_map.2 ⟨q, hq, rfl⟩)
  case bslice z len s ps =>
    split at h
    · rename_i cs hf
      split at h
      · cases h
        refine .sl (inL_chunks (inL_fill (inL_free hz) (fun p hp => ?_) hf) _ _ _)
        obtain ⟨q, hq, rfl⟩ := List.mem_map.1 hp
        exact e _ (List.mem_map.2 ⟨q, hq, rfl⟩)
      · cases h
    · cases h
  case load ag a =>
    simp only [Option.bind_eq_some_iff, Option.map_eq_some_iff] at h
    obtain ⟨cs, hl, v, hv, rfl⟩ := h
    exact inV_pack (inL_loadA hg e hl) hv
  case store n a x =>
    split at h
    · split at h
      · split at h
        · exact storeA_in hg h e.2.cells (inV_nil rfl)
        · cases h
      · cases h
    · cases h
  case nilck x =>
    split at h
    · rename_i o v f hx; cases h; rw [hx] at e; exact e
    · rename_i c f hx; cases h; rw [hx] at e; exact e
    · rename_i f a b hx; cases h; rw [hx] at e; exact e
    · cases h
  case bin op x y =>
    simp only [Option.map_eq_some_iff] at h
    obtain ⟨v, hv, rfl⟩ := h
    exact inV_nil (binA_objs hv)
  case eqc neg ag ks x y =>
    cases ag <;> simp only [prim] at h
    · simp only [Option.map_eq_some_iff] at h
      obtain ⟨b, -, rfl⟩ := h
      exact inV_nil rfl
    · split at h
      · simp only [Option.map_eq_some_iff] at h
        obtain ⟨b, -, rfl⟩ := h
        exact inV_nil rfl
      · cases h
  case eqnil neg k x =>
    simp only [Option.map_eq_some_iff] at h
    obtain ⟨b, -, rfl⟩ := h
    exact inV_nil rfl
  case un op x =>
    simp only [Option.map_eq_some_iff] at h
    obtain ⟨v, hv, rfl⟩ := h
    exact inV_nil (unA_objs hv)
  case cint k x => split at h <;> cases h; exact inV_nil rfl
  case cstr x => split at h <;> cases h; exact inV_nil rfl
  case b2s x =>
    split at h
    · cases h
    · simp only [Option.bind_eq_some_iff, Option.map_eq_some_iff] at h
      obtain ⟨n, -, cs, -, l, -, rfl⟩ := h
      exact inV_nil rfl
  case s2b s x =>
    split at h
    · refine mkA_in h (arr_in fun v hv => ?_) fun v => inV_view (st s)
      obtain ⟨x, -, rfl⟩ := List.mem_map.1 hv
      exact inV_nil rfl
    · cases h
  case mkfunc f xs ys =>
    cases h
    intro o ho
    simp only [V.objs, List.mem_append] at ho
    rcases ho with ho | ho
    · obtain ⟨c, hc', ho⟩ := mem_objsL' ho
      obtain ⟨x, hx, rfl⟩ := List.mem_map.1 hc'
      exact e x (by simp [hx]) o ho
    · obtain ⟨c, hc', ho⟩ := mem_objsL' ho
      obtain ⟨x, hx, rfl⟩ := List.mem_map.1 hc'
      exact e x (by simp [hx]) o ho
  case mkiface ty x =>
    have h' : eff = .ret (.iface ty (ev t x)) := by
      generalize ev t x = v at h
      cases v <;> first | (cases h; done) | (simp at h; exact h.symm)
    subst h'
    exact fun o ho => e o (by simpa [V.objs] using ho)
  case mkslice s z sz by' l c =>
    split at h
    · split at h
      · split at h
        · split at h
          · split at h
            · refine mkA_in h (arr_in fun v hv => ?_) fun v => inV_view (st s)
              obtain ⟨l', hl', hv⟩ := List.mem_flatten.1 hv
              rw [List.eq_of_mem_replicate hl'] at hv
              exact inL_free hz v hv
            · cases h
          · cases h
        · cases h
      · cases h
    · cases h
  case slA n s x lo hi mx =>
    split at h
    · rename_i o ver off hx
      have ho : S o := by have := e.1; rw [hx] at this; exact this o (by simp [V.objs])
      split at h
      · simp only [Option.map_eq_some_iff] at h
        obtain ⟨⟨l, k, m⟩, -, rfl⟩ := h
        exact inV_view ho
      · cases h
    · rename_i cs off hx
      have hcs : InL S cs := by have := e.1; rw [hx] at this; exact this.iptr'
      simp only [Option.bind_eq_some_iff] at h
      obtain ⟨⟨l, k, m⟩, -, h⟩ := h
      simp only at h
      split at h
      · split at h
        · cases h
          exact .sl (inL_chunks hcs _ _ _)
        · cases h
      · cases h
    · cases h
  case slS s x lo hi mx =>
    simp only [Option.map_eq_some_iff] at h
    obtain ⟨v, hv, rfl⟩ := h
    exact sliceA_in e.1 hv
  case slStr x lo hi =>
    split at h
    · simp only [Option.map_eq_some_iff] at h
      obtain ⟨⟨l, k, m⟩, -, rfl⟩ := h
      exact inV_nil rfl
    · cases h
  case faddr off x =>
    split at h
    · rename_i o v f hx; cases h; rw [hx] at e; exact inV_ptr (e o (by simp [V.objs]))
    · rename_i c f hx; cases h; rw [hx] at e; exact .iptr e.iptr'
    · cases h
  case field ag off x =>
    split at h
    · rename_i cs hx
      rw [hx] at e
      split at h
      · simp only [Option.map_eq_some_iff] at h
        obtain ⟨v, hv, rfl⟩ := h
        exact inV_pack ((e.agg'.drop _).take _) hv
      · cases h
    · cases h
  case iaddrA n s x i =>
    simp only [Option.bind_eq_some_iff] at h
    obtain ⟨j, -, h⟩ := h
    split at h
    · rename_i o v f hx; cases h; rw [hx] at e; exact inV_ptr (e.1 o (by simp [V.objs]))
    · rename_i c f hx; cases h; rw [hx] at e; exact .iptr e.1.iptr'
    · cases h
  case iaddrS s x i =>
    unfold iaddrSA at h
    split at h
    · rename_i o ver off len s' cap hx
      split at h
      · simp only [Option.map_eq_some_iff] at h
        obtain ⟨j, -, rfl⟩ := h
        rw [hx] at e
        exact inV_ptr (e.1 o (by simp [V.objs]))
      · cases h
    · rename_i L s' cap hx
      split at h
      · simp only [Option.bind_eq_some_iff, Option.map_eq_some_iff] at h
        obtain ⟨j, -, c, hcj, rfl⟩ := h
        rw [hx] at e
        exact .iptr (e.1.sl' c (List.mem_of_getElem? hcj)).cells
      · cases h
    · cases h
  case indexA n s ag x i =>
    simp only [Option.bind_eq_some_iff] at h
    obtain ⟨j, -, h⟩ := h
    split at h
    · rename_i cs hx
      rw [hx] at e
      split at h
      · simp only [Option.map_eq_some_iff] at h
        obtain ⟨v, hv, rfl⟩ := h
        exact inV_pack ((e.1.agg'.drop _).take _) hv
      · cases h
    · cases h
  case indexStr x i =>
    split at h
    · simp only [Option.bind_eq_some_iff, Option.map_eq_some_iff] at h
      obtain ⟨j, -, c, -, rfl⟩ := h
      exact inV_nil rfl
    · cases h
  case extract x i =>
    split at h
    · rename_i vs hx
      rw [hx] at e
      simp only [Option.map_eq_some_iff] at h
      obtain ⟨v, hv, rfl⟩ := h
      exact e.tup' v (List.mem_of_getElem? hv)
    · cases h
  case lenS x =>
    split at h
    · cases h
    · simp only [Option.map_eq_some_iff] at h
      obtain ⟨n, -, rfl⟩ := h
      exact inV_nil rfl
  case lenStr x => split at h <;> cases h; exact inV_nil rfl
  case lenK n => cases h; exact inV_nil rfl
  case append s sz b x y => exact appendA_in hg (st s) e.1 e.2 h
  case copy s x y => exact copyA_in hg e.1 e.2 h
  case call => cases h
  case callv => cases h
  case minmax mx xs =>
    split at h
    · rename_i a rest hm
      simp only [Option.map_eq_some_iff] at h
      obtain ⟨v, hv, rfl⟩ := h
      refine fold_mm ?_ hv
      have : a ∈ xs.map (ev t) := by rw [hm]; simp
      obtain ⟨x, hx, rfl⟩ := List.mem_map.1 this
      exact e x hx
    · cases h
  case clearS s z x =>
    unfold clearA at h
    split at h
    · cases h; exact inV_nil rfl
    · cases h; exact inV_nil rfl
    · cases h; exact inV_nil rfl
    · split at h
      · cases h; exact inV_nil rfl
      · split at h
        · refine storeA_in hg h (fun v hv => ?_) (inV_nil rfl)
          obtain ⟨l', hl', hv⟩ := List.mem_flatten.1 hv
          rw [List.eq_of_mem_replicate hl'] at hv
          exact inL_free hz v hv
        · cases h
    · cases h
  case bnew s row len sz ps =>
    split at h
    · rename_i cs hf
      refine mkA_in h (arr_in (inL_fill (inL_free hz) (fun p hp => ?_) hf)) fun v => inV_view (st s)
      obtain ⟨q, hq, rfl⟩ := List.mem_map.1 hp
      exact e _ (List.mem_map.2 ⟨q, hq, rfl⟩)
    · cases h
  case mark x =>
    split at h
    · rename_i o ver off len sz cap hx
      split at h
      · cases h; rw [hx] at e; exact e
      · cases h
    · cases h
  case s2ap n s x =>
    simp only [Option.map_eq_some_iff] at h
    obtain ⟨v, hv, rfl⟩ := h
    unfold s2apA at hv
    split at hv
    · rename_i o ver off len s' cap hx
      split at hv
      · split at hv
        · cases hv; rw [hx] at e; exact inV_ptr (e o (by simp [V.objs]))
        · cases hv
      · cases hv
    · rename_i L s' cap hx
      split at hv
      · split at hv
        · cases hv; rw [hx] at e; exact .iptr (inL_flat (e.sl'.take _))
        · cases hv
      · cases hv
    · cases hv
  case mkmap s => exact mkA_in h (map_in fun e he => by cases he) fun v => inV_map (st s)
  case mget ag ks z ok m k =>
    simp only [Option.map_eq_some_iff] at h
    obtain ⟨v, hv, rfl⟩ := h
    have hzv : InV S z := inV_free hz
    unfold mgetA at hv
    split at hv
    · cases hv
    · split at hv
      · split at hv <;> cases hv; exact okV_in hzv
      · split at hv
        · cases hv
        · rename_i es hes
          split at hv
          · split at hv
            · rename_i y hy
              cases hv
              exact okV_in (mapAt_in hg hes y (List.mem_of_find?_eq_some hy)).2
            · cases hv; exact okV_in hzv
          · cases hv
      · cases hv
  case mput ag ks m k v =>
    unfold mputA at h
    split at h
    · cases h
    · split at h
      · split at h
        · cases h
        · rename_i es hes
          split at h
          · cases h
            refine ⟨inV_nil rfl, map_in ?_, rfl⟩
            have hm := mapAt_in hg hes
            unfold mputL
            split
            · intro x hx
              obtain ⟨y, hy, rfl⟩ := List.mem_map.1 hx
              split
              · exact ⟨e.2.1, e.2.2⟩
              · exact hm y hy
            · intro x hx
              rcases List.mem_append.1 hx with hx | hx
              · exact hm x hx
              · obtain rfl := List.mem_singleton.1 hx; exact ⟨e.2.1, e.2.2⟩
          · cases h
      · cases h
  case mdel ag ks m k =>
    unfold mdelA at h
    split at h
    · cases h
    · split at h
      · split at h <;> cases h; exact inV_nil rfl
      · split at h
        · cases h
        · rename_i es hes
          split at h
          · cases h
            exact ⟨inV_nil rfl, map_in fun x hx => mapAt_in hg hes x (List.mem_filter.1 hx).1, rfl⟩
          · cases h
      · cases h
  case mclear m =>
    unfold mclearA at h
    split at h
    · cases h; exact inV_nil rfl
    · split at h
      · cases h
      · cases h; exact ⟨inV_nil rfl, map_in (fun e he => by cases he), rfl⟩
    · cases h
  case mlen m =>
    simp only [Option.map_eq_some_iff] at h
    obtain ⟨v, hv, rfl⟩ := h
    unfold mlenA at hv
    split at hv
    · cases hv; exact inV_nil rfl
    · simp only [Option.map_eq_some_iff] at hv
      obtain ⟨es, -, rfl⟩ := hv
      exact inV_nil rfl
    · cases hv
  case stuck => cases h
end
end Go.Am


set_option linter.unusedVariables false
set_option linter.unusedSimpArgs false
namespace Go.Am
structure Good (S : Nat → Prop) (n0 : Nat) (h : Heap) : Prop where
  names : InG S (fun o => h[o]?)
  base : ∀ (o v st : Nat) pd t fb f k, h[o]? = some ⟨v, .loop st pd t fb f k⟩ → n0 ≤ fb
  len : n0 ≤ h.length
section
variable {S : Nat → Prop} {n0 : Nat}
theorem Good.set {h : Heap} (H : Good S n0 h) {o : Nat} {x : Ob} (hx : ∀ i ∈ x.bd.objs, S i) (hl : ∀ st pd t fb f k, x.bd = .loop st pd t fb f k → n0 ≤ fb) : Good S n0 (h.set o x) := by
  refine ⟨fun i y hy => ?_, fun i v st pd t fb f k hy => ?_, by rw [List.length_set]; exact H.len⟩
  · simp only [List.getElem?_set] at hy
    split at hy
    · split at hy
      · cases hy; exact hx
      · cases hy
    · exact H.names i y hy
  · simp only [List.getElem?_set] at hy
    split at hy
    · split at hy
      · cases hy; exact hl _ _ _ _ _ _ rfl
      · cases hy
    · exact H.base i v st pd t fb f k hy
theorem Good.setP {h : Heap} (H : Good S n0 h) {o : Nat} {x : Ob} (hx : ∀ i ∈ x.bd.objs, S i) (hl : x.bd.plainBd = true) : Good S n0 (h.set o x) :=
  H.set hx fun st pd t fb f k e => by rw [e] at hl; cases hl
theorem Good.dead {h : Heap} (H : Good S n0 h) {o v : Nat} : Good S n0 (h.set o ⟨v, .dead⟩) := H.setP (fun i hi => by cases hi) rfl
theorem Good.app {h : Heap} (H : Good S n0 h) (n : Nat) : Good S n0 (h ++ deads n) := by
  refine ⟨fun i y hy => ?_, fun i v st pd t fb f k hy => ?_, by have := H.len; simp; omega⟩
  · simp only at hy
    rcases Nat.lt_or_ge i h.length with hl | hl
    · rw [List.getElem?_append_left hl] at hy; exact H.names i y hy
    · rw [List.getElem?_append_right hl] at hy
      obtain rfl := List.eq_of_mem_replicate (List.mem_of_getElem? hy)
      intro j hj; cases hj
  · rcases Nat.lt_or_ge i h.length with hl | hl
    · rw [List.getElem?_append_left hl] at hy; exact H.base i v st pd t fb f k hy
    · rw [List.getElem?_append_right hl] at hy
      have := List.eq_of_mem_replicate (List.mem_of_getElem? hy)
      cases this
def CallIn (S : Nat → Prop) (n0 : Nat) (call : Caller) : Prop := ∀ f args h v h', InL S args → Good S n0 h → call f args h = some (v, h') → InV S v ∧ Good S n0 h'
theorem InL.put {t : List V} (h : InL S t) {d : Option Nat} {v : V} (hv : InV S v) : InL S (put t d v) := by
  cases d with
  | none => exact h
  | some d =>
    intro u hu
    rcases List.mem_or_eq_of_mem_set hu with hu | rfl
    · exact h u hu
    · exact hv
theorem InL.clear {t : List V} : ∀ (l : List Nat), InL S t → InL S (clear l t) := by
  intro l
  induction l generalizing t with
  | nil => exact fun h => h
  | cons i l ih => exact fun h => ih (h.put (d := some i) (v := .junk) (inV_nil rfl))
theorem Good.kill {h : Heap} (fb : Nat) : ∀ (l : List Nat), Good S n0 h → Good S n0 (killA fb l h) := by
  intro l
  induction l generalizing h with
  | nil => exact fun H => H
  | cons i l ih =>
    intro H
    unfold killA
    simp only [List.foldl_cons]
    split
    · exact ih H.dead
    · exact ih H
variable (hS : ∀ i, n0 ≤ i → S i)
theorem opds_in {t : List V} (ht : InL S t) {xs : List Opd} (hx : ∀ x ∈ xs, cleanO x = true) : InL S (xs.map (ev t)) := fun v hv => by
  obtain ⟨x, hx', rfl⟩ := List.mem_map.1 hv
  exact inV_ev ht (hx x hx')
include hS in
theorem stepOp_in {call : Caller} (hcall : CallIn S n0 call) {fb : Nat} (hfb : n0 ≤ fb) {o : AOper} (hc : o.op.clean = true) {t : List V} {h : Heap} (ht : InL S t) (H : Good S n0 h) {t' : List V} {h' : Heap} (hr : stepOp call fb o t h = some (t', h')) : InL S t' ∧ Good S n0 h' := by
  unfold stepOp at hr
  split at hr
  · cases hr
  · cases hr; exact ⟨ht.put (inV_nil rfl), H⟩
  · split at hr
    case h_2 => cases hr
    rename_i v h1 hd
    cases hr
    suffices q : InV S v ∧ Good S n0 h' from ⟨ht.put q.1, q.2⟩
    have hcl := hc
    unfold AOp.clean at hcl
    simp only [Bool.and_eq_true, List.all_eq_true] at hcl
    have hopd := hcl.1
    unfold doOp at hd
    split at hd
    · rename_i f args hop
      rw [hop] at hopd
      split at hd
      · cases hd
      · exact hcall _ _ _ _ _ (opds_in ht fun x hx => hopd x hx) H hd
    · rename_i f args hop
      rw [hop] at hopd
      have hf := inV_ev ht (hopd f (by simp [AOp.opds]))
      have ha := opds_in (S := S) ht (xs := args) fun x hx => hopd x (by simp [AOp.opds, hx])
      split at hd
      · rename_i g xs ys hv
        rw [hv] at hf
        split at hd
        · cases hd
        · refine hcall _ _ _ _ _ (((inL_iff.2 fun i hi => hf i (by simp [V.objs, hi])).app ha).app (inL_iff.2 fun i hi => hf i (by simp [V.objs, hi]))) H hd
      · rename_i oo ver hv
        rw [hv] at hf
        exact hcall _ _ _ _ _ (.cons hf ha) H hd
      · cases hd
    · split at hd
      · rename_i hp
        cases hd
        exact ⟨prim_in ht H.names (fun i hi => hS i (by omega)) hc hp, H⟩
      · rename_i i x v' hp
        cases hd
        have := prim_in ht H.names (fun i hi => hS i (by omega)) hc hp
        exact ⟨this.1, H.setP this.2.1 this.2.2⟩
      · cases hd
include hS in
theorem runOps_in {call : Caller} (hcall : CallIn S n0 call) {fb : Nat} (hfb : n0 ≤ fb) : ∀ {ops : List AOper} (hc : ∀ o ∈ ops, o.op.clean = true) {t : List V} {h : Heap} (ht : InL S t) (H : Good S n0 h) {t' : List V} {h' : Heap} (hr : runOps call fb ops t h = some (t', h')), InL S t' ∧ Good S n0 h'
  | [], _, t, h, ht, H, t', h', hr => by simp only [runOps, Option.some.injEq, Prod.mk.injEq] at hr; obtain ⟨rfl, rfl⟩ := hr; exact ⟨ht, H⟩
  | o :: os, hc, t, h, ht, H, t', h', hr => by
    simp only [runOps] at hr
    split at hr
    · rename_i t1 h1 hs
      obtain ⟨a, b⟩ := stepOp_in hS hcall hfb (hc o (by simp)) ht H hs
      exact runOps_in hcall hfb (fun o ho => hc o (by simp [ho])) a b hr
    · cases hr
include hS in
theorem runDraw_in {pureF : FuncId → FMode} {call : Caller} (hcall : CallIn S n0 call) {fb n : Nat} (hfb : n0 ≤ fb) : ∀ {ops : List (AOper × List Nat)} (hc : ∀ o ∈ ops, o.1.op.clean = true) {fps : List FpT} {t : List V} {h : Heap} (ht : InL S t) (H : Good S n0 h) {t' : List V} {h' : Heap} (hr : runDraw pureF call fb n ops fps t h = some (t', h')), InL S t' ∧ Good S n0 h'
  | [], _, fps, t, h, ht, H, t', h', hr => by simp only [runDraw, Option.some.injEq, Prod.mk.injEq] at hr; obtain ⟨rfl, rfl⟩ := hr; exact ⟨ht, H⟩
  | (o, ps) :: os, hc, fps, t, h, ht, H, t', h', hr => by
    simp only [runDraw] at hr
    split at hr
    · split at hr
      · rename_i t1 h1 hs
        obtain ⟨a, b⟩ := stepOp_in hS hcall hfb (hc (o, ps) (by simp)) ht H hs
        exact runDraw_in hcall hfb (fun o ho => hc o (by simp [ho])) a b hr
      · cases hr
    · cases hr
theorem keepOnly_good {R : List Nat} {h : Heap} (H : Good S n0 h) : Good S n0 (keepOnly R h) := by
  refine ⟨fun o x hx => ?_, fun o v st pd t fb f k hx => ?_, by rw [keepOnly_length]; exact H.len⟩
  · simp only at hx
    rw [keepOnly_get] at hx
    simp only [Option.map_eq_some_iff] at hx
    obtain ⟨y, hy, rfl⟩ := hx
    split
    · exact H.names o y hy
    · intro i hi; cases hi
  · rw [keepOnly_get] at hx
    simp only [Option.map_eq_some_iff] at hx
    obtain ⟨y, hy, hx⟩ := hx
    split at hx
    · subst hx; exact H.base o v st pd t fb f k hy
    · cases hx
theorem frameC_in {pureF : FuncId → FMode} {call : Caller} (hcall : CallIn S n0 call) : CallIn S n0 (frameC pureF call) := by
  intro f args h v h' ha H hr
  unfold frameC at hr
  split at hr
  · split at hr
    · rename_i e
      split at hr
      · cases hr; exact hcall _ _ _ _ _ ha H e
      · cases hr
    · cases hr
  · split at hr
    · exact hcall _ _ _ _ _ ha H hr
    · split at hr
      · exact hcall _ _ _ _ _ ha H hr
      · cases hr
    · split at hr
      · rename_i v1 h1 e1 e2
        split at hr
        · rename_i hok
          cases hr
          obtain ⟨q1, q2⟩ := hcall _ _ _ _ _ ha (keepOnly_good H) e2
          have hle : h.length ≤ h1.length := by
            simp only [Bool.and_eq_true, decide_eq_true_eq] at hok
            exact hok.1.1
          refine ⟨q1, ⟨fun o x hx => ?_, fun o v st pd t fb f k hx => ?_, by rw [mergeH_length]; exact q2.len⟩⟩
          · simp only at hx
            rw [mergeH_get] at hx
            simp only [Option.map_eq_some_iff] at hx
            obtain ⟨y, hy, rfl⟩ := hx
            split
            · exact q2.names o y hy
            · rename_i hin
              have hlt : o < h.length := by simp [inside] at hin; omega
              have : h.getD o y = h[o] := by simp [List.getD_eq_getElem?_getD, hlt]
              rw [this]
              exact H.names o _ (List.getElem?_eq_getElem hlt)
          · rw [mergeH_get] at hx
            simp only [Option.map_eq_some_iff] at hx
            obtain ⟨y, hy, hx⟩ := hx
            split at hx
            · subst hx; exact q2.base o v st pd t fb f k hy
            · rename_i hin
              have hlt : o < h.length := by simp [inside] at hin; omega
              have : h.getD o y = h[o] := by simp [List.getD_eq_getElem?_getD, hlt]
              rw [this] at hx
              exact H.base o v st pd t fb f k (by rw [List.getElem?_eq_getElem hlt, hx])
        · cases hr
      · cases hr
def ACode.clean : ACode → Bool
  | .region ops => ops.all fun o => o.op.clean
  | .draw ops => ops.all fun x => x.1.op.clean
  | .seq a b => a.clean && b.clean
  | .cond c a b => cleanO c && (a.clean && b.clean)
  | .block _ b | .loop _ _ b | .fresh _ b => b.clean
  | .rangeF f _ a b _ _ _ => cleanO f && (a.clean && b.clean)
  | _ => true
theorem loopN_in {f : List V → Heap → Option (Ex × List V × Heap)} {pre : List V → Heap → List V × Heap} (hf : ∀ t h e t' h', InL S t → Good S n0 h → f t h = some (e, t', h') → InL S t' ∧ Good S n0 h') (hp : ∀ t h, InL S t → Good S n0 h → InL S (pre t h).1 ∧ Good S n0 (pre t h).2) :
    ∀ (n : Nat) {t : List V} {h : Heap} {e : Ex} {t' : List V} {h' : Heap}, InL S t → Good S n0 h → loopN f pre n t h = some (e, t', h') → InL S t' ∧ Good S n0 h'
  | 0, t, h, e, t', h', _, _, hr => by simp [loopN] at hr
  | n + 1, t, h, e, t', h', ht, H, hr => by
    simp only [loopN] at hr
    obtain ⟨p1, p2⟩ := hp t h ht H
    split at hr
    · rename_i t1 h1 he
      obtain ⟨a, b⟩ := hf _ _ _ _ _ p1 p2 he
      exact loopN_in hf hp n a b hr
    · exact hf _ _ _ _ _ p1 p2 hr
include hS in
theorem exec_in {pureF : FuncId → FMode} {call : Caller} (hcall : CallIn S n0 call) {N : Nat} : ∀ (c : ACode) (hc : c.clean = true) {fb : Nat} (hfb : n0 ≤ fb) {t : List V} {h : Heap} (ht : InL S t) (H : Good S n0 h) {e : Ex} {t' : List V} {h' : Heap} (hr : exec pureF call N fb c t h = some (e, t', h')), InL S t' ∧ Good S n0 h' := by
  intro c
  induction c with
  | skip => intro _ fb _ t h ht H e t' h' hr; simp only [exec, Option.some.injEq, Prod.mk.injEq] at hr; obtain ⟨-, rfl, rfl⟩ := hr; exact ⟨ht, H⟩
  | region ops =>
    intro hc fb hfb t h ht H e t' h' hr
    simp only [exec] at hr
    split at hr
    · rename_i t1 h1 he
      simp only [Option.some.injEq, Prod.mk.injEq] at hr
      obtain ⟨-, rfl, rfl⟩ := hr
      exact runOps_in hS hcall hfb (List.all_eq_true.1 hc) ht H he
    · cases hr
  | draw ops =>
    intro hc fb hfb t h ht H e t' h' hr
    simp only [exec] at hr
    split at hr
    · rename_i t1 h1 he
      simp only [Option.some.injEq, Prod.mk.injEq] at hr
      obtain ⟨-, rfl, rfl⟩ := hr
      exact runDraw_in hS (frameC_in hcall) hfb (List.all_eq_true.1 hc) ht H he
    · cases hr
  | seq a b iha ihb =>
    intro hc fb hfb t h ht H e t' h' hr
    simp only [ACode.clean, Bool.and_eq_true] at hc
    simp only [exec] at hr
    split at hr
    · rename_i t1 h1 he
      obtain ⟨q1, q2⟩ := iha hc.1 hfb ht H he
      exact ihb hc.2 hfb q1 q2 hr
    · exact iha hc.1 hfb ht H hr
  | cond x a b iha ihb =>
    intro hc fb hfb t h ht H e t' h' hr
    simp only [ACode.clean, Bool.and_eq_true] at hc
    simp only [exec] at hr
    split at hr
    · exact iha hc.2.1 hfb ht H hr
    · exact ihb hc.2.2 hfb ht H hr
    · cases hr
  | block id b ih =>
    intro hc fb hfb t h ht H e t' h' hr
    simp only [exec] at hr
    split at hr
    · rename_i i t1 h1 he
      obtain ⟨q1, q2⟩ := ih hc hfb ht H he
      split at hr <;> (simp only [Option.some.injEq, Prod.mk.injEq] at hr; obtain ⟨-, rfl, rfl⟩ := hr; exact ⟨q1, q2⟩)
    · exact ih hc hfb ht H hr
  | loop clr kill b ih =>
    intro hc fb hfb t h ht H e t' h' hr
    simp only [exec] at hr
    exact loopN_in (fun t h e t' h' ht H hr => ih hc hfb ht H hr) (fun t h ht H => ⟨ht.clear clr, H.kill fb kill⟩) N ht H hr
  | exit id => intro _ fb _ t h ht H e t' h' hr; simp only [exec, Option.some.injEq, Prod.mk.injEq] at hr; obtain ⟨-, rfl, rfl⟩ := hr; exact ⟨ht, H⟩
  | ret => intro _ fb _ t h ht H e t' h' hr; simp only [exec, Option.some.injEq, Prod.mk.injEq] at hr; obtain ⟨-, rfl, rfl⟩ := hr; exact ⟨ht, H⟩
  | clr l => intro _ fb _ t h ht H e t' h' hr; simp only [exec, Option.some.injEq, Prod.mk.injEq] at hr; obtain ⟨-, rfl, rfl⟩ := hr; exact ⟨ht.clear l, H⟩
  | fresh n b ih =>
    intro hc fb hfb t h ht H e t' h' hr
    simp only [exec] at hr
    exact ih hc (fb := h.length) H.len ht (H.app n) hr
  | rangeF f ps a b fid k site iha ihb =>
    intro hc fb hfb t h ht H e t' h' hr
    simp only [ACode.clean, Bool.and_eq_true] at hc
    simp only [exec] at hr
    split at hr
    case h_2 => cases hr
    rename_i x hx
    split at hr
    case h_2 => cases hr
    rename_i g xs ys hv
    have hf := inV_ev ht hc.1
    rw [hv] at hf
    split at hr
    · cases hr
    split at hr
    case h_2 => cases hr
    rename_i v h2 hcl
    have hyl : InV S (.yld (fb + site) (x.ver + 1)) := fun i hi => by simp [V.objs] at hi; subst hi; exact hS _ (by omega)
    obtain ⟨-, q2⟩ := hcall _ _ _ _ _ (((inL_iff.2 fun i hi => hf i (by simp [V.objs, hi])).app (.cons hyl inL_nil)).app (inL_iff.2 fun i hi => hf i (by simp [V.objs, hi])))
      (H.set (x := ⟨x.ver + 1, .loop 0 none t fb fid k⟩) (fun i hi => inL_iff.1 ht i hi) (fun st pd t' fb' f' k' e => by cases e; exact hfb)) hcl
    split at hr
    · split at hr
      · split at hr
        · cases hr
        · simp only [Option.some.injEq, Prod.mk.injEq] at hr
          obtain ⟨-, rfl, rfl⟩ := hr
          exact ⟨ht, q2.dead⟩
      · cases hr
    · cases hr
theorem ranges_clean : ∀ (c : ACode), c.clean = true → ∀ r ∈ rangesA c, r.2.1.clean = true ∧ r.2.2.clean = true
  | .skip, _, r, h | .region _, _, r, h | .draw _, _, r, h | .exit _, _, r, h | .ret, _, r, h | .clr _, _, r, h => by simp [rangesA] at h
  | .seq a b, hc, r, h => by
    simp only [ACode.clean, Bool.and_eq_true] at hc
    simp only [rangesA, List.mem_append] at h
    rcases h with h | h
    · exact ranges_clean a hc.1 r h
    · exact ranges_clean b hc.2 r h
  | .cond _ a b, hc, r, h => by
    simp only [ACode.clean, Bool.and_eq_true] at hc
    simp only [rangesA, List.mem_append] at h
    rcases h with h | h
    · exact ranges_clean a hc.2.1 r h
    · exact ranges_clean b hc.2.2 r h
  | .block _ b, hc, r, h => ranges_clean b hc r (by simpa [rangesA] using h)
  | .loop _ _ b, hc, r, h => ranges_clean b hc r (by simpa [rangesA] using h)
  | .fresh _ b, hc, r, h => ranges_clean b hc r (by simpa [rangesA] using h)
  | .rangeF _ ps a b _ _ _, hc, r, h => by
    simp only [ACode.clean, Bool.and_eq_true] at hc
    simp only [rangesA, List.mem_cons, List.mem_append] at h
    rcases h with rfl | h | h
    · exact hc.2
    · exact ranges_clean a hc.2.1 r h
    · exact ranges_clean b hc.2.2 r h
def cleanP (p : AProg) : Bool := p.all fun | some f => f.body.clean | none => true
theorem cleanP_get {p : AProg} (h : cleanP p = true) {f : FuncId} {af : AFunc} (hf : p[f]? = some (some af)) : af.body.clean = true := by
  have := List.all_eq_true.1 h _ (List.mem_of_getElem? hf)
  exact this
theorem mapM_shutF {f : V → Option V} (hf : ∀ a b, f a = some b → b.free = true) : ∀ {l l' : List V}, l.mapM f = some l' → V.freeL l' = true
  | [], l', h => by simp at h; subst h; rfl
  | x :: l, l', h => by
    simp only [List.mapM_cons, Option.bind_eq_bind, Option.bind_eq_some_iff, Option.pure_def, Option.some.injEq] at h
    obtain ⟨y, hy, l2, hl, rfl⟩ := h
    simp only [V.freeL, hf _ _ hy, mapM_shutF hf hl, Bool.and_self]
theorem shut_is_free {get : Nat → Option Ob} : ∀ (d : Nat) (v v' : V), V.shut get d v = some v' → v'.free = true
  | 0, v, v', h => by simp [V.shut] at h
  | d + 1, v, v', h => by
    have ih := shut_is_free (get := get) d
    unfold V.shut at h
    split at h
    · rename_i hf; cases h; exact hf
    split at h
    · split at h
      · split at h
        · rename_i cs hm
          split at h
          · cases h
            have hfr := mapM_shutF ih hm
            refine freeL_of fun c hc => ?_
            obtain ⟨i, -, rfl⟩ := List.mem_map.1 hc
            refine wrapV_free fun c hc => ?_
            exact freeL_mem hfr c (List.mem_of_mem_drop (List.mem_of_mem_take hc))
          · cases h
        · cases h
      · cases h
    · split at h <;> cases h; rfl
    · simp only [Option.map_eq_some_iff] at h; obtain ⟨cs, hm, rfl⟩ := h; exact mapM_shutF ih hm
    · simp only [Option.map_eq_some_iff] at h; obtain ⟨cs, hm, rfl⟩ := h; exact mapM_shutF ih hm
    · simp only [Option.map_eq_some_iff] at h; obtain ⟨x, hm, rfl⟩ := h; show x.free = true; exact ih _ _ hm
    · split at h
      · simp only [Option.map_eq_some_iff] at h; obtain ⟨cs, hm, rfl⟩ := h; exact mapM_shutF ih hm
      · cases h
    · split at h
      · rename_i xs' ys' h1 h2
        cases h
        show (V.freeL xs' && V.freeL ys') = true
        rw [mapM_shutF ih h1, mapM_shutF ih h2]; rfl
      · cases h
    · cases h
mutual
theorem plain_free : ∀ (v : V), v.plain = true → v.free = true
  | .bool _, _ | .int .., _ | .str _, _ | .nilp, _ | .nils, _ | .nilm, _ | .nilf, _ | .nili, _ => rfl
  | .agg cs, h => plainL_free cs (by simpa [V.plain] using h)
  | .tup cs, h => plainL_free cs (by simpa [V.plain] using h)
  | .iface _ v, h => plain_free v (by simpa [V.plain] using h)
  | .junk, h | .ptr .., h | .iptr .., h | .view .., h | .vend .., h | .sl .., h | .map .., h | .func .., h | .yld .., h => by simp [V.plain] at h
  termination_by structural v => v
theorem plainL_free : ∀ (l : List V), V.plainL l = true → V.freeL l = true
  | [], _ => rfl
  | v :: l, h => by
    simp only [V.plainL, Bool.and_eq_true] at h
    simp only [V.freeL, plain_free v h.1, plainL_free l h.2, Bool.and_self]
  termination_by structural l => l
end
theorem resA_in {get : Nat → Option Ob} (hg : InG S get) {t : List V} (ht : InL S t) : ∀ {rs : List ARes} {vs : List V}, resA get t rs = some vs → InL S vs
  | [], vs, h => by simp [resA] at h; subst h; exact inL_nil
  | r :: rs, vs, h => by
    simp only [resA] at h
    split at h
    · rename_i v vs' h1 h2
      cases h
      refine .cons ?_ (resA_in hg ht h2)
      have hd : ∀ i, InV S (t.getD i .junk) := fun i => by
        have := inV_ev (S := S) ht (x := .tmp i) rfl
        exact this
      cases r with
      | tmp i => simp only [resA1, Option.some.injEq] at h1; subst h1; exact hd i
      | cell i ag =>
        simp only [resA1, Option.bind_eq_some_iff] at h1
        obtain ⟨cs, hl, hp⟩ := h1
        exact inV_pack (inL_loadA hg (hd i) hl) hp
    · cases h
theorem packR_in {vs : List V} (h : InL S vs) : InV S (packR vs) := by
  unfold packR
  split
  · exact h _ (by simp)
  · exact .tup h
include hS in
theorem bodyA_in {p : AProg} (hp : cleanP p = true) {call : Caller} (hcall : CallIn S n0 call) {N fb : Nat} (hfb : n0 ≤ fb) {f : FuncId} {fn : AFunc} (hfn : p[f]? = some (some fn)) {args : List V} {h : Heap} (ha : InL S args) (H : Good S n0 h) {v : V} {h' : Heap}
    (hr : bodyA p call N fb fn args h = some (v, h')) : InV S v ∧ Good S n0 h' := by
  have hc := cleanP_get hp hfn
  have ht : InL S (args ++ List.replicate (fn.nt - args.length) .junk) := ha.app fun v hv => by
    rw [List.eq_of_mem_replicate hv]; exact inV_nil rfl
  unfold bodyA at hr
  split at hr
  · rename_i t1 h1 he
    split at hr
    · rename_i vs hres
      cases hr
      obtain ⟨q1, q2⟩ := exec_in hS hcall _ hc hfb ht H he
      exact ⟨packR_in (resA_in q2.names q1 hres), q2⟩
    · cases hr
  · rename_i t1 h1 he
    split at hr
    · rename_i vs hres
      cases hr
      obtain ⟨q1, q2⟩ := exec_in hS hcall _ hc hfb ht H he
      exact ⟨packR_in (resA_in q2.names q1 hres), q2⟩
    · cases hr
  · cases hr
theorem setPs_in : ∀ (ps : List Nat) (xs : List V) {t : List V}, InL S t → InL S xs → InL S (setPs ps xs t)
  | [], xs, t, ht, _ => by simp [setPs]; exact ht
  | p :: ps, [], t, ht, _ => by simp [setPs]; exact ht
  | p :: ps, x :: xs, t, ht, hx => by
    have := setPs_in ps xs (ht.put (d := some p) (hx x (by simp))) (fun v hv => hx v (by simp [hv]))
    simpa [setPs, put] using this
include hS in
theorem yieldA_in {p : AProg} (hp : cleanP p = true) {call : Caller} (hcall : CallIn S n0 call) {N : Nat} {args : List V} {h : Heap} (ha : InL S args) (H : Good S n0 h) {v : V} {h' : Heap} (hr : yieldA p call N args h = some (v, h')) : InV S v ∧ Good S n0 h' := by
  unfold yieldA at hr
  split at hr
  case h_2 => cases hr
  rename_i o ver xs
  split at hr
  case h_2 => cases hr
  rename_i v0 st0 pd0 t fb f k hx
  have hfb := H.base _ _ _ _ _ _ _ _ hx
  have ht : InL S t := inL_iff.2 fun i hi => H.names o _ hx i hi
  split at hr
  case isFalse => cases hr
  split at hr
  case h_2 => cases hr
  rename_i af haf
  split at hr
  case h_2 => cases hr
  rename_i ps asn body hrg
  obtain ⟨c1, c2⟩ := ranges_clean _ (cleanP_get hp haf) _ (List.mem_of_getElem? hrg)
  split at hr
  case isFalse => cases hr
  split at hr
  case h_2 => cases hr
  rename_i t1 h1 he
  obtain ⟨q1, q2⟩ := exec_in hS hcall _ c1 hfb (setPs_in ps xs ht (fun v hv => ha v (by simp [hv]))) H he
  split at hr
  case h_2 => cases hr
  rename_i v1 p1 t2 fb2 f2 k2 hx1
  split at hr
  case isFalse => cases hr
  split at hr
  case h_2 => cases hr
  rename_i x t1' h2 he2
  obtain ⟨q3, q4⟩ := exec_in hS hcall _ c2 hfb q1 (q2.set (x := ⟨ver, .loop 1 p1 t2 fb2 f2 k2⟩) (fun i hi => q2.names o _ hx1 i hi) (fun st pd t' fb' f' k' e => by cases e; exact q2.base _ _ _ _ _ _ _ _ hx1)) he2
  split at hr
  case h_2 => cases hr
  rename_i v2 st2 pd2 t3 fb3 f3 k3 hx2
  split at hr
  case isFalse => cases hr
  have fin : ∀ st pd, Good S n0 (h2.set o ⟨ver, .loop st pd t3 fb3 f3 k3⟩) := fun st pd => q4.set (fun i hi => q4.names o _ hx2 i hi) (fun st pd t' fb' f' k' e => by cases e; exact q4.base _ _ _ _ _ _ _ _ hx2)
  split at hr <;> (cases hr; exact ⟨inV_nil rfl, fin _ _⟩)
include hS in
theorem callA_in {p : AProg} (hp : cleanP p = true) (N : Nat) : ∀ n, CallIn S n0 (callA p N n)
  | 0, f, args, h, v, h', _, _, hr => by simp [callA] at hr
  | n + 1, f, args, h, v, h', ha, H, hr => by
    have ih := callA_in hp N n
    unfold callA at hr
    split at hr
    · exact yieldA_in hS hp ih ha H hr
    split at hr
    case h_2 => cases hr
    rename_i fn hfn
    split at hr
    case isFalse => cases hr
    have keep : ∀ {v h'}, bodyA p (callA p N n) N h.length fn args (h ++ deads fn.sites) = some (v, h') → InV S v ∧ Good S n0 h' := fun hr => bodyA_in hS hp ih H.len hfn ha (H.app _) hr
    have shut : ∀ {v h'}, (match bodyA p (callA p N n) N 0 fn args (deads fn.sites) with | some (v, h') => (match V.shut (fun o => h'[o]?) sealDepth v with | some v' => some (v', h) | none => none) | none => none) = some (v, h') → InV S v ∧ Good S n0 h' := by
      intro v h' hr
      split at hr
      · split at hr
        · rename_i v' hs
          cases hr
          exact ⟨inV_free (shut_is_free _ _ _ hs), H⟩
        · cases hr
      · cases hr
    cases hmode : fn.mode with
    | keep => simp only [hmode] at hr; exact keep hr
    | auto =>
      simp only [hmode] at hr
      split at hr
      · exact shut hr
      · exact keep hr
    | pure =>
      simp only [hmode] at hr
      split at hr
      · exact shut hr
      · cases hr
    | look =>
      simp only [hmode] at hr
      split at hr
      · split at hr
        · split at hr
          · rename_i hpl
            cases hr
            exact ⟨inV_free (plain_free _ hpl), H⟩
          · cases hr
        · cases hr
      · cases hr
end
theorem frame_all {m : FMode} {p : AProg} (hp : cleanP p = true) {N n : Nat} {f : FuncId} {args : List V} {h h1 : Heap} {v : V} {R : List Nat} (hm : pureOf p f = m) (hk : m = .keep ∨ m = .auto) (hR : reachC h (V.objsL args) = R)
    (hcl : ∀ o ∈ R, ∀ y, h[o]? = some y → (∀ i ∈ y.bd.objs, i ∈ R) ∧ y.bd.plainBd = true) (hc : callA p N n f args (keepOnly R h) = some (v, h1)) (hy : f ≠ YLD := by decide) :
    frameC (pureOf p) (callA p N n) f args h = some (v, mergeH R h h1) ∧ h.length ≤ h1.length := by
  have hRs := reachC_sub h (V.objsL args)
  rw [hR] at hRs
  have G0 : Good (fun i => i ∈ R ∨ h.length ≤ i) h.length (keepOnly R h) := by
    refine ⟨fun o x hx i hi => ?_, fun o v st pd t fb f k hx => ?_, by rw [keepOnly_length]; exact Nat.le_refl _⟩
    · simp only at hx
      rw [keepOnly_get] at hx
      simp only [Option.map_eq_some_iff] at hx
      obtain ⟨y, hy', rfl⟩ := hx
      split at hi
      · rename_i hcn
        exact .inl ((hcl o (by simpa using hcn) y hy').1 i hi)
      · cases hi
    · rw [keepOnly_get] at hx
      simp only [Option.map_eq_some_iff] at hx
      obtain ⟨y, hy', hx⟩ := hx
      split at hx
      · rename_i hcn
        subst hx
        have := (hcl o (by simpa using hcn) _ hy').2
        cases this
      · cases hx
  obtain ⟨q1, q2⟩ := callA_in (S := fun i => i ∈ R ∨ h.length ≤ i) (n0 := h.length) (fun i hi => .inr hi) hp N n f args _ _ _ (inL_iff.2 fun o ho => .inl (hRs o ho)) G0 hc
  refine ⟨frame_gen hm hk hR (fun o ho y hy' => (hcl o ho y hy').1) hc q2.len q1 (fun o y hy' _ => q2.names o y hy') hy, q2.len⟩
end Go.Am


set_option linter.unusedVariables false
set_option linter.unusedSimpArgs false
set_option maxRecDepth 10000
namespace Go.Am.T
attribute [local congr] selV_congr impB_congr
theorem clean_am : cleanP am = true := by kernel_rfl
theorem ints_objs (k : IntKind) : ∀ l : List Int, V.objsL (l.map (V.int k)) = []
  | [] => rfl
  | x :: l => by show [] ++ V.objsL (l.map (V.int k)) = []; rw [ints_objs k l]; rfl
theorem dv_objs {D : Dv} {X : V} : V.objsL (D.cs X) = X.objs := by
  have app : ∀ a b : List V, V.objsL (a ++ b) = V.objsL a ++ V.objsL b := by
    intro a
    induction a with
    | nil => intro b; rfl
    | cons x a ih =>
      intro b
      show x.objs ++ V.objsL (a ++ b) = (x.objs ++ V.objsL a) ++ V.objsL b
      rw [ih, List.append_assoc]
  show X.objs ++ V.objsL _ = _
  rw [app, ints_objs]
  simp [V.objsL, V.objs]
theorem DAt.closed {H : Heap} {d o : Nat} {D : Dv} (h : DAt H d o D) : ∀ p ∈ [d, o], ∀ y, H[p]? = some y → (∀ i ∈ y.bd.objs, i ∈ [d, o]) ∧ y.bd.plainBd = true := by
  obtain ⟨ver, cap, hd, ho⟩ := h.ob
  intro p hp y hy
  simp only [List.mem_cons, List.not_mem_nil, or_false] at hp
  rcases hp with rfl | rfl
  · rw [hd] at hy; cases hy
    refine ⟨fun i hi => ?_, rfl⟩
    have hi' : i ∈ V.objsL (D.cs (.view o ver 0 D.S.length 64 cap)) := hi
    rw [dv_objs] at hi'
    simp only [V.objs, List.mem_cons, List.not_mem_nil, or_false] at hi'
    simp [hi']
  · rw [ho] at hy; cases hy
    refine ⟨fun i hi => ?_, rfl⟩
    have hi' : i ∈ V.objsL (D.S.flatten.map (V.int .u8)) := hi
    rw [ints_objs] at hi'
    cases hi'
theorem reach_of {H : Heap} {l R : List Nat} (h1 : addNew l (l.flatMap (namedBy H)) = R) (hl : l ≠ []) (hcl : ∀ p ∈ R, ∀ y, H[p]? = some y → (∀ i ∈ y.bd.objs, i ∈ R) ∧ y.bd.plainBd = true) : reachC H l = R := by
  have e : reachC H l = reachN H 5 (addNew l (l.flatMap (namedBy H))) := by
    cases l with
    | nil => exact absurd rfl hl
    | cons a l => rfl
  rw [e, h1]
  exact reachN_closed H _ (fun o ho i hi => by
    unfold namedBy at hi
    split at hi
    · rename_i y hy; exact (hcl o ho y hy).1 i hi
    · cases hi) 5
theorem DAt.reach {H : Heap} {d o : Nat} {D : Dv} (h : DAt H d o D) : reachC H [d] = [d, o] := by
  refine reach_of ?_ (by simp) h.closed
  obtain ⟨ver, cap, hd, ho⟩ := h.ob
  have e1 : namedBy H d = [o] := by
    simp only [namedBy, hd]
    show V.objsL (D.cs (.view o ver 0 D.S.length 64 cap)) = [o]
    rw [dv_objs]; rfl
  have hne : o ≠ d := Ne.symm h.apart
  simp [e1, addNew, hne]
theorem RAt.closed {H : Heap} {r s e : Nat} {D : Dv} (h : RAt H r s e D) : ∀ p ∈ [r, s, e], ∀ y, H[p]? = some y → (∀ i ∈ y.bd.objs, i ∈ [r, s, e]) ∧ y.bd.plainBd = true := by
  obtain ⟨ver, cap, ver', cap', hr, hs, he⟩ := h.ob
  intro p hp y hy
  simp only [List.mem_cons, List.not_mem_nil, or_false] at hp
  rcases hp with rfl | rfl | rfl
  · rw [hr] at hy; cases hy
    refine ⟨fun i hi => ?_, rfl⟩
    have hi' : i ∈ [s, e] := hi
    simp only [List.mem_cons, List.not_mem_nil, or_false] at hi'
    rcases hi' with rfl | rfl <;> simp
  · rw [hs] at hy; cases hy
    refine ⟨fun i hi => ?_, rfl⟩
    have hi' : i ∈ V.objsL (D.S.flatten.map (V.int .u8)) := hi
    rw [ints_objs] at hi'
    cases hi'
  · rw [he] at hy; cases hy
    refine ⟨fun i hi => ?_, rfl⟩
    have hi' : i ∈ V.objsL (D.eps.map (V.int .i64)) := hi
    rw [ints_objs] at hi'
    cases hi'
theorem RAt.reach {H : Heap} {r s e : Nat} {D : Dv} (h : RAt H r s e D) : reachC H [r] = [r, s, e] := by
  refine reach_of ?_ (by simp) h.closed
  obtain ⟨ver, cap, ver', cap', hr, hs, he⟩ := h.ob
  have e1 : namedBy H r = [s, e] := by
    simp only [namedBy, hr]
    rfl
  have h1 := Ne.symm h.rs
  have h2 := Ne.symm h.re
  have h3 := Ne.symm h.se
  simp [e1, addNew, h1, h2, h3]
theorem frame_bytes {N n : Nat} {f : FuncId} {a : Nat} {h : Heap} {R : List Nat} {L : List Int} (hm : pureOf am f = .keep) (hR : reachC h [a] = R)
    (hcl : ∀ o ∈ R, ∀ y, h[o]? = some y → (∀ i ∈ y.bd.objs, i ∈ R) ∧ y.bd.plainBd = true)
    (hc : ∃ H' W, callA am N n f [.ptr a 1 0] (keepOnly R h) = some (W, H') ∧ (keepOnly R h).length ≤ H'.length ∧ (∀ p, p < (keepOnly R h).length → H'[p]? = (keepOnly R h)[p]?) ∧ Byt H' (keepOnly R h).length W L) (fb : Nat) (hy : f ≠ YLD := by decide) :
    ∃ H' W, ({ pureF := pureOf am, call := callA am N n, N := N, fb := fb } : Env).framed.call f [.ptr a 1 0] h = some (W, H') ∧ h.length ≤ H'.length ∧ (∀ p, p < h.length → H'[p]? = h[p]?) ∧ Byt H' h.length W L := by
  obtain ⟨h1, W, hc, hl, hk, o, v, ho, rfl, hob⟩ := hc
  rw [keepOnly_length] at ho hk hl
  obtain ⟨e1, e2⟩ := frame_all clean_am hm (.inl rfl) (args := [.ptr a 1 0]) hR hcl hc hy
  refine ⟨_, _, e1, by rw [mergeH_length]; exact e2, fun p hp => ?_, o, v, ho, rfl, ?_⟩
  · by_cases hpR : p ∈ R
    · rw [merge_in (.inl hpR), hk p hp, keepOnly_in hpR]
    · exact merge_out hpR hp e2
  · rw [merge_in (.inr ho)]; exact hob
theorem DAt.only {H : Heap} {d o : Nat} {D : Dv} (h : DAt H d o D) : DAt (keepOnly [d, o] H) d o D := h.keep fun p hp => keepOnly_in (by simpa using hp)
theorem RAt.only {H : Heap} {r s e : Nat} {D : Dv} (h : RAt H r s e D) : RAt (keepOnly [r, s, e] H) r s e D := h.keep fun p hp => keepOnly_in (by simpa using hp)
end Go.Am.T


set_option linter.unusedVariables false
set_option linter.unusedSimpArgs false
set_option maxRecDepth 10000
namespace Go.Am.T
attribute [local congr] selV_congr impB_congr
theorem num_spec {N n : Nat} (hn : 1 ≤ n) (x : Int) (H : Heap) : callA am N n 11 [.int .i64 x] H = some (.int .i64 x, H) := by
  obtain ⟨n, rfl⟩ : ∃ m, n = m + 1 := ⟨n - 1, by omega⟩
  refine call_pure at11 rfl rfl (by decide) rfl (sx_wp ?_)
  simp +contextual -implicitDefEqProofs (maxSteps := 10000000) only [sxb, plainD, stays, ↓selV_wt, ↓selV_wf, ↓impB_wt, ↓impB_wf, ↓selV_nor, ↓impB_nor, ↓selV_nt, ↓selV_nf, ↓impB_nt, ↓impB_nf, ↓selV_true, ↓selV_false, ↓selV_and, ↓impB_true, ↓impB_false, ↓impB_and, ↓prim_pick, ↓selV_nn, ↓impB_nn, doOp, get, ins, del, dels, Nat.reduceLT, Nat.reduceEqDiff, ↓reduceIte, reduceCtorEq, ne_eq, implies_true, prim, YLD, mkA, V.cells, Nat.reduceAdd, Nat.reduceSub, Nat.reduceMul, Nat.reduceLeDiff, loadA, cellsAt, nAg, packA, List.drop, List.take, List.head?, binA, unA, eqCells, eqCell, negB, fillA, storeA, Ob.with, indexedI, V.oneCell, intOf?, resA, resA1, packR, sealDepth, Int.reduceLT, Int.reduceLE, Int.reduceToNat, Int.reduceNeg, Int.reduceAdd, Int.reduceSub, Int.reduceMul, cond_true, cond_false, Int.reduceBNe, Int.reduceBEq, eq_self, deads, List.replicate, argsF, am11, isNil]
def zz : Ob := ⟨0, .dead⟩
def hS (H T : Heap) (r : Nat) (leave : Int) (a b c d e f g : Ob) : Heap := H ++ ⟨1, .var [.ptr r 1 0]⟩ :: ⟨1, .var [.int .i64 leave]⟩ :: ⟨1, .var [.bool false]⟩ :: a :: b :: c :: d :: e :: f :: g :: T
def sB : ACode := (.seq (.seq (.draw [(⟨some 23, (.move (.tmp 0)), none⟩, []), (⟨some 24, (.call 32 [(.tmp 23)]), none⟩, []), (⟨some 25, (.load none (.tmp 4)), none⟩, []), (⟨some 26, (.nilck (.tmp 25)), none⟩, []), (⟨some 27, (.faddr 0 (.tmp 26)), none⟩, []), (⟨some 28, (.load none (.tmp 27)), none⟩, []), (⟨some 29, (.lenS (.tmp 28)), none⟩, []), (⟨some 30, (.bin .neq (.tmp 24) (.tmp 29)), none⟩, []), (⟨some 31, (.move (.tmp 30)), none⟩, []), (⟨some 32, (.move (.tmp 0)), some (31, false)⟩, []), (⟨some 33, (.call 33 [(.tmp 32)]), some (31, false)⟩, []), (⟨some 34, (.load none (.tmp 4)), some (31, false)⟩, []), (⟨some 35, (.nilck (.tmp 34)), some (31, false)⟩, []), (⟨some 36, (.faddr 1 (.tmp 35)), some (31, false)⟩, []), (⟨some 37, (.load none (.tmp 36)), some (31, false)⟩, []), (⟨some 38, (.lenS (.tmp 37)), some (31, false)⟩, []), (⟨some 39, (.bin .neq (.tmp 33) (.tmp 38)), some (31, false)⟩, []), (⟨some 40, (.pick (.tmp 31) (.cst (.bool true)) (.tmp 39)), none⟩, []), (⟨some 41, (.move (.tmp 40)), none⟩, []), (⟨some 42, (.move (.tmp 0)), some (41, false)⟩, []), (⟨some 43, (.call 34 [(.tmp 42)]), some (41, false)⟩, []), (⟨some 44, (.load none (.tmp 4)), some (41, false)⟩, []), (⟨some 45, (.nilck (.tmp 44)), some (41, false)⟩, []), (⟨some 46, (.faddr 4 (.tmp 45)), some (41, false)⟩, []), (⟨some 47, (.load none (.tmp 46)), some (41, false)⟩, []), (⟨some 48, (.bin .neq (.tmp 43) (.tmp 47)), some (41, false)⟩, []), (⟨some 49, (.pick (.tmp 41) (.cst (.bool true)) (.tmp 48)), none⟩, []), (⟨some 50, (.move (.tmp 49)), none⟩, []), (⟨some 51, (.move (.tmp 0)), some (50, false)⟩, []), (⟨some 52, (.call 35 [(.tmp 51)]), some (50, false)⟩, []), (⟨some 53, (.b2s (.tmp 52)), some (50, false)⟩, []), (⟨some 54, (.load none (.tmp 4)), some (50, false)⟩, [29]), (⟨some 55, (.call 36 [(.tmp 54)]), some (50, false)⟩, [30]), (⟨some 56, (.b2s (.tmp 55)), some (50, false)⟩, []), (⟨some 57, (.bin .neq (.tmp 53) (.tmp 56)), some (50, false)⟩, []), (⟨some 58, (.pick (.tmp 50) (.cst (.bool true)) (.tmp 57)), none⟩, [])]) (.clr [57, 56, 55, 54, 53, 52, 51, 50, 49, 48, 47, 46, 45, 44, 43, 42, 41, 40, 39, 38, 37, 36, 35, 34, 33, 32, 31, 30, 29, 28, 27, 26, 25, 24, 23])) (.cond (.tmp 58) (.seq (.clr [146, 145, 58, 5, 4, 0]) (.seq (.region [⟨none, (.store 1 (.tmp 6) (.cst (.bool false))), none⟩]) .ret)) (.seq (.clr [58]) .skip)))
def sC : ACode := (.seq (.region [⟨some 7, (.move (.cst (.int .i64 (-1)))), none⟩]) (.block 0 (.loop [] [] (.seq (.seq (.seq (.region [⟨some 59, (.move (.tmp 7)), none⟩, ⟨some 60, (.load none (.tmp 4)), none⟩, ⟨some 61, (.nilck (.tmp 60)), none⟩, ⟨some 62, (.faddr 1 (.tmp 61)), none⟩, ⟨some 63, (.load none (.tmp 62)), none⟩, ⟨some 64, (.lenS (.tmp 63)), none⟩, ⟨some 65, (.bin .leq (.tmp 59) (.tmp 64)), none⟩]) (.clr [64, 63, 62, 61, 60, 59])) (.cond (.tmp 65) (.seq (.clr [65]) .skip) (.seq (.clr [65, 7]) (.exit 0)))) (.seq (.block 1 (.seq (.seq (.region [⟨some 69, (.move (.tmp 0)), none⟩, ⟨some 70, (.move (.tmp 7)), none⟩, ⟨some 71, (.call 19 [(.tmp 69), (.tmp 70)]), none⟩, ⟨some 68, (.move (.tmp 71)), none⟩, ⟨some 72, (.extract (.tmp 68) 0), none⟩, ⟨some 73, (.extract (.tmp 68) 1), none⟩, ⟨some 8, (.move (.tmp 72)), none⟩, ⟨some 9, (.move (.tmp 73)), none⟩]) (.clr [73, 72, 71, 70, 69, 68])) (.seq (.seq (.region [⟨some 75, (.load none (.tmp 4)), none⟩, ⟨some 76, (.move (.tmp 7)), none⟩, ⟨some 77, (.call 37 [(.tmp 75), (.tmp 76)]), none⟩, ⟨some 74, (.move (.tmp 77)), none⟩, ⟨some 78, (.extract (.tmp 74) 0), none⟩, ⟨some 79, (.extract (.tmp 74) 1), none⟩, ⟨some 10, (.move (.tmp 78)), none⟩, ⟨some 11, (.move (.tmp 79)), none⟩]) (.clr [79, 78, 77, 76, 75, 74])) (.seq (.seq (.seq (.region [⟨some 80, (.move (.tmp 8)), none⟩, ⟨some 81, (.move (.tmp 10)), none⟩, ⟨some 82, (.bin .neq (.tmp 80) (.tmp 81)), none⟩, ⟨some 83, (.move (.tmp 82)), none⟩, ⟨some 84, (.move (.tmp 9)), some (83, false)⟩, ⟨some 85, (.call 11 [(.tmp 84)]), some (83, false)⟩, ⟨some 86, (.move (.tmp 11)), some (83, false)⟩, ⟨some 87, (.bin .neq (.tmp 85) (.tmp 86)), some (83, false)⟩, ⟨some 88, (.pick (.tmp 83) (.cst (.bool true)) (.tmp 87)), none⟩]) (.clr [87, 86, 85, 84, 83, 82, 81, 80, 11, 9, 8])) (.cond (.tmp 88) (.seq (.clr [146, 145, 88, 10, 7, 5, 4, 0]) (.seq (.region [⟨none, (.store 1 (.tmp 6) (.cst (.bool false))), none⟩]) .ret)) (.seq (.clr [88]) .skip))) (.seq (.seq (.region [⟨some 89, (.move (.tmp 10)), none⟩, ⟨some 90, (.bin .sub (.tmp 89) (.cst (.int .i64 1))), none⟩, ⟨some 12, (.move (.tmp 90)), none⟩]) (.clr [90, 89])) (.block 2 (.loop [] [] (.seq (.seq (.seq (.region [⟨some 91, (.move (.tmp 12)), none⟩, ⟨some 92, (.move (.tmp 10)), none⟩, ⟨some 93, (.bin .add (.tmp 92) (.cst (.int .i64 1))), none⟩, ⟨some 94, (.bin .leq (.tmp 91) (.tmp 93)), none⟩]) (.clr [93, 92, 91])) (.cond (.tmp 94) (.seq (.clr [94]) .skip) (.seq (.clr [94, 12, 10]) (.exit 2)))) (.seq (.block 3 (.seq (.seq (.region [⟨some 97, (.move (.tmp 0)), none⟩, ⟨some 98, (.move (.tmp 7)), none⟩, ⟨some 99, (.move (.tmp 12)), none⟩, ⟨some 100, (.call 38 [(.tmp 97), (.tmp 98), (.tmp 99)]), none⟩, ⟨some 101, (.load none (.tmp 4)), none⟩, ⟨some 102, (.move (.tmp 7)), none⟩, ⟨some 103, (.move (.tmp 12)), none⟩, ⟨some 104, (.call 39 [(.tmp 101), (.tmp 102), (.tmp 103)]), none⟩, ⟨some 105, (.eqc true false [.b] (.tmp 100) (.tmp 104)), none⟩]) (.clr [104, 103, 102, 101, 100, 99, 98, 97])) (.cond (.tmp 105) (.seq (.clr [146, 145, 105, 12, 10, 7, 5, 4, 0]) (.seq (.region [⟨none, (.store 1 (.tmp 6) (.cst (.bool false))), none⟩]) .ret)) (.seq (.clr [105]) .skip)))) (.seq (.region [⟨some 95, (.move (.tmp 12)), none⟩, ⟨some 96, (.bin .add (.tmp 95) (.cst (.int .i64 1))), none⟩, ⟨some 12, (.move (.tmp 96)), none⟩]) (.clr [96, 95]))))))))))) (.seq (.region [⟨some 66, (.move (.tmp 7)), none⟩, ⟨some 67, (.bin .add (.tmp 66) (.cst (.int .i64 1))), none⟩, ⟨some 7, (.move (.tmp 67)), none⟩]) (.clr [67, 66])))))))
def sD : ACode := (.seq (.region [⟨some 13, (.move (.cst (.int .i64 (-1)))), none⟩]) (.block 4 (.loop [] [] (.seq (.seq (.seq (.region [⟨some 106, (.move (.tmp 13)), none⟩, ⟨some 107, (.load none (.tmp 4)), none⟩, ⟨some 108, (.nilck (.tmp 107)), none⟩, ⟨some 109, (.faddr 0 (.tmp 108)), none⟩, ⟨some 110, (.load none (.tmp 109)), none⟩, ⟨some 111, (.lenS (.tmp 110)), none⟩, ⟨some 112, (.bin .leq (.tmp 106) (.tmp 111)), none⟩]) (.clr [111, 110, 109, 108, 107, 106])) (.cond (.tmp 112) (.seq (.clr [112]) .skip) (.seq (.clr [112, 13]) (.exit 4)))) (.seq (.block 5 (.seq (.seq (.region [⟨some 116, (.move (.tmp 0)), none⟩, ⟨some 117, (.move (.tmp 13)), none⟩, ⟨some 118, (.call 26 [(.tmp 116), (.tmp 117)]), none⟩, ⟨some 115, (.move (.tmp 118)), none⟩, ⟨some 119, (.extract (.tmp 115) 0), none⟩, ⟨some 120, (.extract (.tmp 115) 1), none⟩, ⟨some 14, (.allocz 3 [(.int .u8 0), (.int .u8 0), (.int .u8 0), (.int .u8 0), (.int .u8 0), (.int .u8 0), (.int .u8 0), (.int .u8 0), (.int .u8 0), (.int .u8 0), (.int .u8 0), (.int .u8 0), (.int .u8 0), (.int .u8 0), (.int .u8 0), (.int .u8 0), (.int .u8 0), (.int .u8 0), (.int .u8 0), (.int .u8 0), (.int .u8 0), (.int .u8 0), (.int .u8 0), (.int .u8 0), (.int .u8 0), (.int .u8 0), (.int .u8 0), (.int .u8 0), (.int .u8 0), (.int .u8 0), (.int .u8 0), (.int .u8 0), (.int .u8 0), (.int .u8 0), (.int .u8 0), (.int .u8 0), (.int .u8 0), (.int .u8 0), (.int .u8 0), (.int .u8 0), (.int .u8 0), (.int .u8 0), (.int .u8 0), (.int .u8 0), (.int .u8 0), (.int .u8 0), (.int .u8 0), (.int .u8 0), (.int .u8 0), (.int .u8 0), (.int .u8 0), (.int .u8 0), (.int .u8 0), (.int .u8 0), (.int .u8 0), (.int .u8 0), (.int .u8 0), (.int .u8 0), (.int .u8 0), (.int .u8 0), (.int .u8 0), (.int .u8 0), (.int .u8 0), (.int .u8 0)]), none⟩, ⟨none, (.store 64 (.tmp 14) (.tmp 119)), none⟩, ⟨some 15, (.move (.tmp 120)), none⟩]) (.clr [120, 119, 118, 117, 116, 115])) (.seq (.seq (.region [⟨some 122, (.load none (.tmp 4)), none⟩, ⟨some 123, (.move (.tmp 13)), none⟩, ⟨some 124, (.call 40 [(.tmp 122), (.tmp 123)]), none⟩, ⟨some 121, (.move (.tmp 124)), none⟩, ⟨some 125, (.extract (.tmp 121) 0), none⟩, ⟨some 126, (.extract (.tmp 121) 1), none⟩, ⟨some 16, (.allocz 4 [(.int .u8 0), (.int .u8 0), (.int .u8 0), (.int .u8 0), (.int .u8 0), (.int .u8 0), (.int .u8 0), (.int .u8 0), (.int .u8 0), (.int .u8 0), (.int .u8 0), (.int .u8 0), (.int .u8 0), (.int .u8 0), (.int .u8 0), (.int .u8 0), (.int .u8 0), (.int .u8 0), (.int .u8 0), (.int .u8 0), (.int .u8 0), (.int .u8 0), (.int .u8 0), (.int .u8 0), (.int .u8 0), (.int .u8 0), (.int .u8 0), (.int .u8 0), (.int .u8 0), (.int .u8 0), (.int .u8 0), (.int .u8 0), (.int .u8 0), (.int .u8 0), (.int .u8 0), (.int .u8 0), (.int .u8 0), (.int .u8 0), (.int .u8 0), (.int .u8 0), (.int .u8 0), (.int .u8 0), (.int .u8 0), (.int .u8 0), (.int .u8 0), (.int .u8 0), (.int .u8 0), (.int .u8 0), (.int .u8 0), (.int .u8 0), (.int .u8 0), (.int .u8 0), (.int .u8 0), (.int .u8 0), (.int .u8 0), (.int .u8 0), (.int .u8 0), (.int .u8 0), (.int .u8 0), (.int .u8 0), (.int .u8 0), (.int .u8 0), (.int .u8 0), (.int .u8 0)]), none⟩, ⟨none, (.store 64 (.tmp 16) (.tmp 125)), none⟩, ⟨some 17, (.move (.tmp 126)), none⟩]) (.clr [126, 125, 124, 123, 122, 121])) (.seq (.seq (.region [⟨some 127, (.load (some 64) (.tmp 14)), none⟩, ⟨some 128, (.load (some 64) (.tmp 16)), none⟩, ⟨some 129, (.eqc true true [(.i .u8), (.i .u8), (.i .u8), (.i .u8), (.i .u8), (.i .u8), (.i .u8), (.i .u8), (.i .u8), (.i .u8), (.i .u8), (.i .u8), (.i .u8), (.i .u8), (.i .u8), (.i .u8), (.i .u8), (.i .u8), (.i .u8), (.i .u8), (.i .u8), (.i .u8), (.i .u8), (.i .u8), (.i .u8), (.i .u8), (.i .u8), (.i .u8), (.i .u8), (.i .u8), (.i .u8), (.i .u8), (.i .u8), (.i .u8), (.i .u8), (.i .u8), (.i .u8), (.i .u8), (.i .u8), (.i .u8), (.i .u8), (.i .u8), (.i .u8), (.i .u8), (.i .u8), (.i .u8), (.i .u8), (.i .u8), (.i .u8), (.i .u8), (.i .u8), (.i .u8), (.i .u8), (.i .u8), (.i .u8), (.i .u8), (.i .u8), (.i .u8), (.i .u8), (.i .u8), (.i .u8), (.i .u8), (.i .u8), (.i .u8)] (.tmp 127) (.tmp 128)), none⟩, ⟨some 130, (.move (.tmp 129)), none⟩, ⟨some 131, (.move (.tmp 15)), some (130, false)⟩, ⟨some 132, (.call 11 [(.tmp 131)]), some (130, false)⟩, ⟨some 133, (.move (.tmp 17)), some (130, false)⟩, ⟨some 134, (.bin .neq (.tmp 132) (.tmp 133)), some (130, false)⟩, ⟨some 135, (.pick (.tmp 130) (.cst (.bool true)) (.tmp 134)), none⟩]) (.clr [134, 133, 132, 131, 130, 129, 128, 127, 17, 16, 15, 14])) (.cond (.tmp 135) (.seq (.clr [146, 145, 135, 13, 5, 4, 0]) (.seq (.region [⟨none, (.store 1 (.tmp 6) (.cst (.bool false))), none⟩]) .ret)) (.seq (.clr [135]) .skip)))))) (.seq (.region [⟨some 113, (.move (.tmp 13)), none⟩, ⟨some 114, (.bin .add (.tmp 113) (.cst (.int .i64 1))), none⟩, ⟨some 13, (.move (.tmp 114)), none⟩]) (.clr [114, 113])))))))
end Go.Am.T


set_option linter.unusedVariables false
set_option linter.unusedSimpArgs false
set_option maxRecDepth 10000
namespace Go.Am.T
attribute [local congr] selV_congr impB_congr
end Go.Am.T


set_option linter.unusedVariables false
set_option linter.unusedSimpArgs false
set_option maxRecDepth 10000
namespace Go.Am.T
attribute [local congr] selV_congr impB_congr
end Go.Am.T


set_option linter.unusedVariables false
set_option linter.unusedSimpArgs false
set_option maxRecDepth 10000
namespace Go.Am.T
attribute [local congr] selV_congr impB_congr
end Go.Am.T


set_option linter.unusedVariables false
set_option linter.unusedSimpArgs false
set_option maxRecDepth 10000
namespace Go.Am.T
attribute [local congr] selV_congr impB_congr
section
variable {N n : Nat} {H T : Heap} {d so r s e : Nat} {D : Dv}
end
def sZ : ACode := (.seq (.seq (.region [⟨some 136, (.move (.tmp 0)), none⟩, ⟨some 137, (.call 41 [(.tmp 136)]), none⟩, ⟨some 18, (.move (.tmp 137)), none⟩]) (.clr [137, 136, 0])) (.seq (.seq (.seq (.region [⟨some 138, (.move (.tmp 18)), none⟩, ⟨some 139, (.eqnil false NK.f (.tmp 138)), none⟩]) (.clr [138])) (.cond (.tmp 139) (.seq (.clr [146, 145, 139, 18, 5, 4]) (.seq (.region [⟨none, (.store 1 (.tmp 6) (.cst (.bool false))), none⟩]) .ret)) (.seq (.clr [139]) .skip))) (.seq (.seq (.region [⟨some 19, (.allocz 5 [(.int .i64 0)]), none⟩, ⟨none, (.store 1 (.tmp 19) (.cst (.int .i64 0))), none⟩]) (.block 6 (.loop [] [] (.seq (.seq (.seq (.region [⟨some 140, (.load none (.tmp 19)), none⟩, ⟨some 141, (.bin .lss (.tmp 140) (.cst (.int .i64 2))), none⟩]) (.clr [140])) (.cond (.tmp 141) (.seq (.clr [141]) .skip) (.seq (.clr [146, 145, 141, 19, 18, 5, 4]) (.exit 6)))) (.seq (.block 7 (.seq (.region [⟨some 20, (.allocz 6 [(.int .i64 0)]), none⟩, ⟨none, (.store 1 (.tmp 20) (.cst (.int .i64 0))), none⟩]) (.seq (.seq (.region [⟨some 144, (.move (.tmp 18)), none⟩]) (.block 8 (.rangeF (.tmp 144) [145, 146] (.seq (.seq (.region [⟨some 21, (.move (.tmp 145)), none⟩]) (.clr [145])) (.seq (.region [⟨some 22, (.allocz 7 [(.int .u8 0), (.int .u8 0), (.int .u8 0), (.int .u8 0), (.int .u8 0), (.int .u8 0), (.int .u8 0), (.int .u8 0), (.int .u8 0), (.int .u8 0), (.int .u8 0), (.int .u8 0), (.int .u8 0), (.int .u8 0), (.int .u8 0), (.int .u8 0), (.int .u8 0), (.int .u8 0), (.int .u8 0), (.int .u8 0), (.int .u8 0), (.int .u8 0), (.int .u8 0), (.int .u8 0), (.int .u8 0), (.int .u8 0), (.int .u8 0), (.int .u8 0), (.int .u8 0), (.int .u8 0), (.int .u8 0), (.int .u8 0), (.int .u8 0), (.int .u8 0), (.int .u8 0), (.int .u8 0), (.int .u8 0), (.int .u8 0), (.int .u8 0), (.int .u8 0), (.int .u8 0), (.int .u8 0), (.int .u8 0), (.int .u8 0), (.int .u8 0), (.int .u8 0), (.int .u8 0), (.int .u8 0), (.int .u8 0), (.int .u8 0), (.int .u8 0), (.int .u8 0), (.int .u8 0), (.int .u8 0), (.int .u8 0), (.int .u8 0), (.int .u8 0), (.int .u8 0), (.int .u8 0), (.int .u8 0), (.int .u8 0), (.int .u8 0), (.int .u8 0), (.int .u8 0)]), none⟩, ⟨none, (.store 64 (.tmp 22) (.tmp 146)), none⟩]) (.clr [146]))) (.block 9 (.seq (.seq (.seq (.region [⟨some 147, (.move (.tmp 21)), none⟩, ⟨some 148, (.load none (.tmp 20)), none⟩, ⟨some 149, (.bin .neq (.tmp 147) (.tmp 148)), none⟩, ⟨some 150, (.move (.tmp 149)), none⟩, ⟨some 151, (.load none (.tmp 20)), some (150, false)⟩, ⟨some 152, (.load none (.tmp 4)), some (150, false)⟩, ⟨some 153, (.nilck (.tmp 152)), some (150, false)⟩, ⟨some 154, (.faddr 0 (.tmp 153)), some (150, false)⟩, ⟨some 155, (.load none (.tmp 154)), some (150, false)⟩, ⟨some 156, (.lenS (.tmp 155)), some (150, false)⟩, ⟨some 157, (.bin .geq (.tmp 151) (.tmp 156)), some (150, false)⟩, ⟨some 158, (.pick (.tmp 150) (.cst (.bool true)) (.tmp 157)), none⟩, ⟨some 159, (.move (.tmp 158)), none⟩, ⟨some 160, (.load (some 64) (.tmp 22)), some (159, false)⟩, ⟨some 161, (.load none (.tmp 4)), some (159, false)⟩, ⟨some 162, (.nilck (.tmp 161)), some (159, false)⟩, ⟨some 163, (.faddr 0 (.tmp 162)), some (159, false)⟩, ⟨some 164, (.load none (.tmp 163)), some (159, false)⟩, ⟨some 165, (.load none (.tmp 20)), some (159, false)⟩, ⟨some 166, (.iaddrS 64 (.tmp 164) (.tmp 165)), some (159, false)⟩, ⟨some 167, (.load (some 64) (.tmp 166)), some (159, false)⟩, ⟨some 168, (.eqc true true [(.i .u8), (.i .u8), (.i .u8), (.i .u8), (.i .u8), (.i .u8), (.i .u8), (.i .u8), (.i .u8), (.i .u8), (.i .u8), (.i .u8), (.i .u8), (.i .u8), (.i .u8), (.i .u8), (.i .u8), (.i .u8), (.i .u8), (.i .u8), (.i .u8), (.i .u8), (.i .u8), (.i .u8), (.i .u8), (.i .u8), (.i .u8), (.i .u8), (.i .u8), (.i .u8), (.i .u8), (.i .u8), (.i .u8), (.i .u8), (.i .u8), (.i .u8), (.i .u8), (.i .u8), (.i .u8), (.i .u8), (.i .u8), (.i .u8), (.i .u8), (.i .u8), (.i .u8), (.i .u8), (.i .u8), (.i .u8), (.i .u8), (.i .u8), (.i .u8), (.i .u8), (.i .u8), (.i .u8), (.i .u8), (.i .u8), (.i .u8), (.i .u8), (.i .u8), (.i .u8), (.i .u8), (.i .u8), (.i .u8), (.i .u8)] (.tmp 160) (.tmp 167)), some (159, false)⟩, ⟨some 169, (.pick (.tmp 159) (.cst (.bool true)) (.tmp 168)), none⟩]) (.clr [168, 167, 166, 165, 164, 163, 162, 161, 160, 159, 158, 157, 156, 155, 154, 153, 152, 151, 150, 149, 148, 147, 22, 21, 4])) (.cond (.tmp 169) (.seq (.clr [169, 20, 19, 5]) (.seq (.seq (.region [⟨none, (.store 1 (.tmp 6) (.cst (.bool false))), none⟩]) (.clr [6])) .ret)) (.seq (.clr [169, 6]) .skip))) (.seq (.seq (.region [⟨some 170, (.load none (.tmp 20)), none⟩, ⟨some 171, (.bin .add (.tmp 170) (.cst (.int .i64 1))), none⟩, ⟨none, (.store 1 (.tmp 20) (.tmp 171)), none⟩]) (.clr [171, 170])) (.seq (.seq (.region [⟨some 172, (.load none (.tmp 19)), none⟩, ⟨some 173, (.bin .eql (.tmp 172) (.cst (.int .i64 0))), none⟩, ⟨some 174, (.move (.tmp 173)), none⟩, ⟨some 175, (.load none (.tmp 20)), some (174, true)⟩, ⟨some 176, (.load none (.tmp 5)), some (174, true)⟩, ⟨some 177, (.bin .eql (.tmp 175) (.tmp 176)), some (174, true)⟩, ⟨some 178, (.pick (.tmp 174) (.tmp 177) (.cst (.bool false))), none⟩]) (.clr [177, 176, 175, 174, 173, 172, 20, 19, 5])) (.cond (.tmp 178) (.seq (.clr [178]) (.exit 8)) (.seq (.clr [178]) .skip)))))) 12 0 9))) (.seq (.seq (.region [⟨some 179, (.load none (.tmp 19)), none⟩, ⟨some 180, (.bin .eql (.tmp 179) (.cst (.int .i64 1))), none⟩, ⟨some 181, (.move (.tmp 180)), none⟩, ⟨some 182, (.load none (.tmp 20)), some (181, true)⟩, ⟨some 183, (.load none (.tmp 4)), some (181, true)⟩, ⟨some 184, (.nilck (.tmp 183)), some (181, true)⟩, ⟨some 185, (.faddr 0 (.tmp 184)), some (181, true)⟩, ⟨some 186, (.load none (.tmp 185)), some (181, true)⟩, ⟨some 187, (.lenS (.tmp 186)), some (181, true)⟩, ⟨some 188, (.bin .neq (.tmp 182) (.tmp 187)), some (181, true)⟩, ⟨some 189, (.pick (.tmp 181) (.tmp 188) (.cst (.bool false))), none⟩, ⟨some 190, (.move (.tmp 189)), none⟩, ⟨some 191, (.load none (.tmp 19)), some (190, false)⟩, ⟨some 192, (.bin .eql (.tmp 191) (.cst (.int .i64 0))), some (190, false)⟩, ⟨some 193, (.move (.tmp 192)), some (190, false)⟩, ⟨some 194, (.load none (.tmp 20)), some (193, true)⟩, ⟨some 195, (.load none (.tmp 4)), some (193, true)⟩, ⟨some 196, (.nilck (.tmp 195)), some (193, true)⟩, ⟨some 197, (.faddr 0 (.tmp 196)), some (193, true)⟩, ⟨some 198, (.load none (.tmp 197)), some (193, true)⟩, ⟨some 199, (.lenS (.tmp 198)), some (193, true)⟩, ⟨some 200, (.bin .neq (.tmp 194) (.tmp 199)), some (193, true)⟩, ⟨some 201, (.pick (.tmp 193) (.tmp 200) (.cst (.bool false))), some (190, false)⟩, ⟨some 202, (.move (.tmp 201)), some (190, false)⟩, ⟨some 203, (.load none (.tmp 20)), some (202, true)⟩, ⟨some 204, (.load none (.tmp 5)), some (202, true)⟩, ⟨some 205, (.bin .neq (.tmp 203) (.tmp 204)), some (202, true)⟩, ⟨some 206, (.pick (.tmp 202) (.tmp 205) (.cst (.bool false))), some (190, false)⟩, ⟨some 207, (.pick (.tmp 190) (.cst (.bool true)) (.tmp 206)), none⟩]) (.clr [206, 205, 204, 203, 202, 201, 200, 199, 198, 197, 196, 195, 194, 193, 192, 191, 190, 189, 188, 187, 186, 185, 184, 183, 182, 181, 180, 179, 20])) (.cond (.tmp 207) (.seq (.clr [207, 146, 145, 19, 18, 5, 4]) (.seq (.region [⟨none, (.store 1 (.tmp 6) (.cst (.bool false))), none⟩]) .ret)) (.seq (.clr [207]) .skip)))))) (.seq (.seq (.seq (.region [⟨some 208, (.load none (.tmp 19)), none⟩]) (.clr [19])) (.seq (.region [⟨some 19, (.allocz 5 [(.int .i64 0)]), none⟩, ⟨none, (.store 1 (.tmp 19) (.tmp 208)), none⟩]) (.clr [208]))) (.seq (.region [⟨some 142, (.load none (.tmp 19)), none⟩, ⟨some 143, (.bin .add (.tmp 142) (.cst (.int .i64 1))), none⟩, ⟨none, (.store 1 (.tmp 19) (.tmp 143)), none⟩]) (.clr [143, 142])))))))) (.seq (.region [⟨none, (.store 1 (.tmp 6) (.cst (.bool true))), none⟩]) .ret))))
end Go.Am.T


set_option linter.unusedVariables false
set_option linter.unusedSimpArgs false
set_option maxRecDepth 10000
namespace Go.Am.T
attribute [local congr] selV_congr impB_congr
attribute [local irreducible] sB sC sD sZ
end Go.Am.T


set_option linter.unusedVariables false
set_option linter.unusedSimpArgs false
namespace Go.Am
variable {P : Program}
inductive Sh where
  | int (k : IntKind)
  | bool
  | str
  | unit
  | pair (a b : Sh)
  | arr (n : Nat) (e : Sh)
  | sl (ag : Bool) (s : Nat) (e : Sh)
  deriving DecidableEq
def elemV (ag : Bool) (u : List V) : V := match ag with | true => .agg u | false => u.headD .junk
def InSh : Sh → List V → Prop
  | .int k, vs => ∃ n, vs = [.int k n] ∧ (Lit.int k n).wf = true
  | .bool, vs => ∃ b, vs = [.bool b]
  | .str, vs => ∃ s, vs = [.str s] ∧ s.length ≤ maxLen
  | .unit, vs => vs = []
  | .pair a b, vs => ∃ u v, vs = u ++ v ∧ InSh a u ∧ InSh b v
  | .arr n e, vs => ∃ us : List (List V), us.length = n ∧ vs = us.flatten ∧ ∀ u ∈ us, InSh e u
  | .sl ag s e, vs => vs = [.nils] ∨ ∃ (us : List (List V)) (c : Nat), vs = [.sl (us.map (elemV ag)) s (some c)] ∧ us.length ≤ c ∧ c ≤ maxLen ∧ ∀ u ∈ us, u.length = s ∧ InSh e u
def aggB (P : Program) (t : TypeId) : Bool := match P.underlying t with | some (.struct _) | some (.array _ _) => true | _ => false
def contig (P : Program) (tot : Nat) : Nat → List Field → Bool
  | off, [] => off == tot
  | off, f :: fs => f.offset == off && contig P tot (off + P.cellsOf f.type) fs
def shFields (g : TypeId → Option Sh) : List Field → Option Sh
  | [] => some .unit
  | f :: fs => match g f.type, shFields g fs with | some a, some b => some (.pair a b) | _, _ => none
def shF (P : Program) : Nat → TypeId → Option Sh
  | 0, _ => none
  | m + 1, t =>
    match P.underlying t with
    | some .bool => some .bool
    | some (.int k) => some (.int k)
    | some .string => some .str
    | some (.struct fs) => if contig P (P.cellsOf t) 0 fs.toList then shFields (shF P m) fs.toList else none
    | some (.array n e) => if n * P.cellsOf e = P.cellsOf t then (shF P m e).map (.arr n) else none
    | some (.slice e) => if 0 < P.cellsOf e ∧ (aggB P e = true ∨ P.cellsOf e = 1) then (shF P m e).map (.sl (aggB P e) (P.cellsOf e)) else none
    | _ => none
def argG (P : Program) (w : World) : G := ⟨fun _ _ => none, fun b => b < w.heap.size, codesOf P⟩
section
variable {H : Type} {enc : TypeId × Value → H} {w : World} {sp : Nat → Bool} {held : Bool} {g : G}
theorem cells_one {v : V} {x : Value} (h : VRel g w v x) : Cells g w [v] [x] := by
  refine ⟨rfl, fun i c y h1 h2 => ?_⟩
  cases i with
  | zero => simp at h1 h2; subst h1; subst h2; exact h
  | succ i => simp at h1
theorem cells_app {u v : List V} {xs ys : List Value} (h1 : Cells g w u xs) (h2 : Cells g w v ys) : Cells g w (u ++ v) (xs ++ ys) := cells_append h1 h2
theorem spot_of {P : Program} {w : World} {a : Addr} {n : Nat} {cs : List Value} (hn : 0 < n) (h : w.cells? 0 a n = some cs) : a.spot = none ∧ a.block < w.heap.size := by
  simp only [World.cells?, Nat.zero_le, ↓reduceIte] at h
  have h0 := mapM_some_get h 0 0 (by simp [hn])
  have hl : cs.length = n := by simpa using mapM_some_length h
  rw [List.getElem?_eq_getElem (by omega)] at h0
  have ha : a.add 0 = a := by unfold Addr.add; rw [if_pos rfl]
  rw [ha] at h0
  unfold World.cell? at h0
  split at h0
  · rename_i hb
    refine ⟨?_, ?_⟩
    · split at h0
      · cases h0
      · rename_i hs
        simpa using hs
    · rcases Nat.lt_or_ge a.block w.heap.size with h | h
      · exact h
      · rw [Array.getElem?_eq_none h] at hb; cases hb
  · cases h0
def shP (P : Program) (m : Nat) (t : TypeId) : Option Sh := shF P m t
def InP (ag : Bool) (S : Sh) (v : V) : Prop := match ag with | true => ∃ cs, v = .agg cs ∧ InSh S cs | false => InSh S [v]
theorem cells_of_agg {xs : Array Value} : (Value.agg xs).cells = xs := rfl
theorem okWide_agg {r : Reach} {b0 : Nat} {t : TypeId} {v : Value} (ha : aggB P t = true) (hv : Value.okWide P w r b0 t v) : ∃ cs, v = .agg cs := by
  unfold aggB at ha
  unfold Value.okWide at hv
  split at ha <;> rename_i hu <;> simp only [hu] at hv
  · exact ⟨hv.choose, hv.choose_spec.1⟩
  · exact ⟨hv.choose, hv.choose_spec.1⟩
  · cases ha
theorem okWide_cell {r : Reach} {b0 : Nat} {t : TypeId} {v : Value} (ha : aggB P t = false) (hv : Value.okWide P w r b0 t v) : Cell.okWide P w r b0 t v := by
  unfold aggB at ha
  unfold Value.okWide at hv
  split at ha
  · cases ha
  · cases ha
  · rename_i hu1 hu2
    split at hv
    · rename_i h2; exact absurd h2 (hu1 _)
    · rename_i h2; exact absurd h2 (hu2 _ _)
    · exact hv
theorem cell_not_agg {r : Reach} {b0 : Nat} {t : TypeId} {xs : Array Value} (hv : Cell.okWide P w r b0 t (.agg xs)) : False := by
  unfold Cell.okWide at hv
  split at hv <;> first | (rename_i h1 h2; cases h2; done) | skip
  unfold Cell.ok at hv
  split at hv <;> simp_all
theorem InSh.free : ∀ {S : Sh} {vs : List V}, InSh S vs → V.freeL vs = true
  | .int k, vs, ⟨n, h, _⟩ => by subst h; rfl
  | .bool, vs, ⟨n, h⟩ => by subst h; rfl
  | .str, vs, ⟨n, h, _⟩ => by subst h; rfl
  | .unit, vs, h => by cases h; rfl
  | .pair a b, vs, ⟨u, v, h, h1, h2⟩ => by subst h; rw [freeL_append, InSh.free h1, InSh.free h2]; rfl
  | .arr n e, vs, ⟨us, hn, h, h1⟩ => by
    subst h
    clear hn
    induction us with
    | nil => rfl
    | cons u us ih => rw [List.flatten_cons, freeL_append, InSh.free (h1 u (by simp)), ih (fun v hv => h1 v (by simp [hv]))]; rfl
  | .sl ag s e, vs, h => by
    rcases h with rfl | ⟨us, c, rfl, -, -, h1⟩
    · rfl
    · rw [freeL_cons, freeL_nil, Bool.and_true, free_sl]
      clear c
      induction us with
      | nil => rfl
      | cons u us ih =>
        have hu := InSh.free (h1 u (by simp)).2
        rw [List.map_cons, freeL_cons, ih (fun v hv => h1 v (by simp [hv])), Bool.and_true]
        cases ag with
        | true => exact hu
        | false =>
          cases u with
          | nil => rfl
          | cons x u => rw [freeL_cons, Bool.and_eq_true] at hu; exact hu.1
theorem InP.free {ag : Bool} {S : Sh} {v : V} (h : InP ag S v) : v.free = true := by
  cases ag with
  | true => obtain ⟨cs, rfl, h⟩ := h; exact h.free
  | false => have := InSh.free h; rw [freeL_cons, Bool.and_eq_true] at this; exact this.1
end
end Go.Am


set_option linter.unusedVariables false
set_option linter.unusedSimpArgs false
namespace Go.Am
theorem in_i64 {vs : List V} (h : InSh (.int .i64) vs) : ∃ n, vs = [.int .i64 n] ∧ -9223372036854775808 ≤ n ∧ n ≤ 9223372036854775807 := by
  obtain ⟨n, rfl, hw⟩ := h
  exact ⟨n, rfl, by simpa using bounds_i64 hw⟩
theorem in_u8 {vs : List V} (h : InSh (.int .u8) vs) : ∃ n, vs = [.int .u8 n] ∧ 0 ≤ n ∧ n ≤ 255 := by
  obtain ⟨n, rfl, hw⟩ := h
  exact ⟨n, rfl, by simpa using bounds_u8 hw⟩
def Bytes (l : List Int) : Prop := ∀ x ∈ l, 0 ≤ x ∧ x ≤ 255
theorem in_bytes {n : Nat} {vs : List V} (h : InSh (.arr n (.int .u8)) vs) : ∃ l : List Int, vs = l.map (V.int .u8) ∧ l.length = n ∧ Bytes l := by
  obtain ⟨us, hn, rfl, hu⟩ := h
  subst hn
  induction us with
  | nil => exact ⟨[], rfl, rfl, fun x hx => by cases hx⟩
  | cons u us ih =>
    obtain ⟨l, h1, h2, h3⟩ := ih (fun v hv => hu v (by simp [hv]))
    obtain ⟨x, rfl, hx⟩ := in_u8 (hu u (by simp))
    refine ⟨x :: l, by rw [List.flatten_cons, h1]; rfl, by simp [h2], fun y hy => ?_⟩
    rcases List.mem_cons.1 hy with rfl | hy
    · exact hx
    · exact h3 y hy
end Go.Am


set_option linter.unusedVariables false
set_option linter.unusedSimpArgs false
set_option maxRecDepth 10000
namespace Go.Am.T
attribute [local congr] selV_congr impB_congr
theorem known_spec {N n : Nat} (hN : 5000 ≤ N) (hn : 20 ≤ n) (h : Heap) : callA am N n 8 [] h = some (.bool true, h) :=
  closed_quick pm8 (show callB am 5000 20 8 [] [] = some (.bool true, []) by kernel_rfl) hN hn h
def Ro (k : IntKind) (m : List Int) (b : V) : Prop := (m = [] ∧ b = .nils) ∨ ∃ c, b = .sl (m.map (V.int k)) 1 c
theorem Ro.isL {k : IntKind} {m : List Int} {b : V} (h : Ro k m b) : IsL b 1 (m.map fun n => [V.int k n]) := by
  rcases h with ⟨rfl, rfl⟩ | ⟨c, rfl⟩
  · exact isL_nils 1
  · exact isL_sl (ints_free k m) (by rw [List.map_map]; rfl)
theorem ones_flat (k : IntKind) : ∀ m : List Int, (m.map fun n => [V.int k n]).flatten = m.map (V.int k)
  | [] => rfl
  | x :: m => by rw [List.map_cons, List.flatten_cons, ones_flat k m]; rfl
theorem Ro.first {k : IntKind} {m : List Int} {b : V} (h : Ro k m b) (get : Nat → Option Ob) : lenA b = some m.length ∧ firstA get 1 m.length b = some (m.map (V.int k)) := by
  have hl := h.isL
  refine ⟨by rw [hl.len, List.length_map], ?_⟩
  rw [hl.first get m.length (by simp), List.take_of_length_le (by simp), ones_flat]
theorem app_new {K : Heap} {o s b n : Nat} {y : V} {new : List V} {x : Ob} (ho : K[o]? = some x) (hl : lenA y = some n) (hf : firstA (fun o => K[o]?) s n y = some new) (h1 : new.all V.oneCell = true) (h0 : n ≠ 0) (hb : n * b ≤ maxBytes) :
    appendA (fun o => K[o]?) o s b .nils y = some (.set o ⟨x.ver + 1, .arr new⟩ (.view o (x.ver + 1) 0 n s none)) := by
  simp only [appendA, hl, hf, h1, ↓reduceIte, h0, hb, mkA, ho]
theorem app_more {K : Heap} {o o' ver s b n len : Nat} {y : V} {new cs : List V} (ho : K[o']? = some ⟨ver, .arr cs⟩) (hl : lenA y = some n) (hf : firstA (fun o => K[o]?) s n y = some new) (h1 : new.all V.oneCell = true) (h0 : n ≠ 0) (hc : len * s = cs.length) (hb : (len + n) * b ≤ maxBytes) :
    appendA (fun o => K[o]?) o s b (.view o' ver 0 len s none) y = some (.set o' ⟨ver + 1, .arr (cs ++ new)⟩ (.view o' (ver + 1) 0 (len + n) s none)) := by
  simp only [appendA, hl, hf, h1, ↓reduceIte, h0, cellsAt, ho, Nat.zero_add, hc, Nat.le_refl, hb, List.drop_zero]
end Go.Am.T


set_option linter.unusedVariables false
set_option linter.unusedSimpArgs false
set_option maxRecDepth 10000
namespace Go.Am.T
attribute [local congr] selV_congr impB_congr
def oA : ACode := (.seq (.region [⟨some 4, (.move (.cst (.bool false))), none⟩]) (.clr [4]))
def oB : ACode := (.seq (.seq (.region [⟨some 12, (.move (.tmp 0)), none⟩, ⟨some 13, (.lenS (.tmp 12)), none⟩, ⟨some 14, (.bin .gtr (.tmp 13) (.cst (.int .i64 9000))), none⟩, ⟨some 15, (.move (.tmp 14)), none⟩, ⟨some 16, (.move (.tmp 1)), some (15, false)⟩, ⟨some 17, (.lenS (.tmp 16)), some (15, false)⟩, ⟨some 18, (.bin .gtr (.tmp 17) (.cst (.int .i64 20))), some (15, false)⟩, ⟨some 19, (.pick (.tmp 15) (.cst (.bool true)) (.tmp 18)), none⟩]) (.clr [18, 17, 16, 15, 14, 13, 12])) (.cond (.tmp 19) (.seq (.clr [19, 1, 0]) (.seq (.seq (.region [⟨some 20, (.call 8 []), none⟩, ⟨some 4, (.move (.tmp 20)), none⟩]) (.clr [20])) .ret)) (.seq (.clr [19]) .skip)))
def oP : ACode := (.seq (.region [⟨some 21, (.move (.tmp 0)), none⟩, ⟨some 22, (.append 0 1 1 (.cst .nils) (.tmp 21)), none⟩, ⟨some 23, (.bnew 1 [(.int .u8 0)] 1 1 [(0, 1, (.cst (.int .u8 119)))]), none⟩, ⟨some 24, (.append 2 1 1 (.tmp 22) (.tmp 23)), none⟩, ⟨some 25, (.move (.tmp 1)), none⟩, ⟨some 26, (.append 3 1 8 (.cst .nils) (.tmp 25)), none⟩, ⟨some 27, (.bslice [(.int .i64 0)] 1 1 [(0, 1, (.cst (.int .i64 77)))]), none⟩, ⟨some 28, (.append 4 1 8 (.tmp 26) (.tmp 27)), none⟩, ⟨some 5, (.move (.tmp 24)), none⟩, ⟨some 6, (.move (.tmp 28)), none⟩]) (.clr [28, 27, 26, 25, 24, 23, 22, 21]))
def oR : ACode := (.seq (.seq (.region [⟨some 30, (.move (.tmp 5)), none⟩, ⟨some 31, (.move (.tmp 0)), none⟩, ⟨some 32, (.lenS (.tmp 31)), none⟩, ⟨some 33, (.slS 1 (.tmp 30) none (some (.tmp 32)) none), none⟩, ⟨some 34, (.move (.tmp 6)), none⟩, ⟨some 35, (.move (.tmp 1)), none⟩, ⟨some 36, (.lenS (.tmp 35)), none⟩, ⟨some 37, (.slS 1 (.tmp 34) none (some (.tmp 36)) none), none⟩, ⟨some 38, (.call 9 [(.tmp 33), (.tmp 37)]), none⟩, ⟨some 29, (.move (.tmp 38)), none⟩, ⟨some 39, (.extract (.tmp 29) 0), none⟩, ⟨some 40, (.extract (.tmp 29) 1), none⟩, ⟨some 7, (.move (.tmp 39)), none⟩, ⟨some 8, (.move (.tmp 40)), none⟩]) (.clr [40, 39, 38, 37, 36, 35, 34, 33, 32, 31, 30, 29])) (.seq (.seq (.region [⟨some 41, (.move (.tmp 0)), none⟩, ⟨some 42, (.move (.tmp 1)), none⟩, ⟨some 43, (.call 10 [(.tmp 41), (.tmp 42)]), none⟩, ⟨some 9, (.move (.tmp 43)), none⟩]) (.clr [43, 42, 41])) (.seq (.seq (.seq (.region [⟨some 44, (.move (.tmp 5)), none⟩, ⟨some 45, (.b2s (.tmp 44)), none⟩, ⟨some 46, (.move (.tmp 0)), none⟩, ⟨some 47, (.b2s (.tmp 46)), none⟩, ⟨some 48, (.bin .add (.tmp 47) (.cst (.str [119]))), none⟩, ⟨some 49, (.bin .neq (.tmp 45) (.tmp 48)), none⟩, ⟨some 50, (.move (.tmp 49)), none⟩, ⟨some 51, (.move (.tmp 6)), some (50, false)⟩, ⟨some 52, (.move (.tmp 1)), some (50, false)⟩, ⟨some 53, (.lenS (.tmp 52)), some (50, false)⟩, ⟨some 54, (.iaddrS 1 (.tmp 51) (.tmp 53)), some (50, false)⟩, ⟨some 55, (.load none (.tmp 54)), some (50, false)⟩, ⟨some 56, (.bin .neq (.tmp 55) (.cst (.int .i64 77))), some (50, false)⟩, ⟨some 57, (.pick (.tmp 50) (.cst (.bool true)) (.tmp 56)), none⟩]) (.clr [56, 55, 54, 53, 52, 51, 50, 49, 48, 47, 46, 45, 44, 0])) (.cond (.tmp 57) (.seq (.clr [57, 9, 8, 7, 6, 5, 1]) (.seq (.region [⟨some 4, (.move (.cst (.bool false))), none⟩]) .ret)) (.seq (.clr [57]) .skip))) (.seq (.seq (.region [⟨some 10, (.move (.cst (.int .i64 0))), none⟩]) (.block 0 (.loop [] [] (.seq (.seq (.seq (.region [⟨some 58, (.move (.tmp 10)), none⟩, ⟨some 59, (.move (.tmp 5)), none⟩, ⟨some 60, (.lenS (.tmp 59)), none⟩, ⟨some 61, (.bin .lss (.tmp 58) (.tmp 60)), none⟩]) (.clr [60, 59, 58])) (.cond (.tmp 61) (.seq (.clr [61]) .skip) (.seq (.clr [61, 10, 5]) (.exit 0)))) (.seq (.block 1 (.seq (.region [⟨some 64, (.move (.tmp 5)), none⟩, ⟨some 65, (.move (.tmp 10)), none⟩, ⟨some 66, (.iaddrS 1 (.tmp 64) (.tmp 65)), none⟩, ⟨none, (.store 1 (.tmp 66) (.cst (.int .u8 102))), none⟩]) (.clr [66, 65, 64]))) (.seq (.region [⟨some 62, (.move (.tmp 10)), none⟩, ⟨some 63, (.bin .add (.tmp 62) (.cst (.int .i64 1))), none⟩, ⟨some 10, (.move (.tmp 63)), none⟩]) (.clr [63, 62]))))))) (.seq (.seq (.region [⟨some 11, (.move (.cst (.int .i64 0))), none⟩]) (.block 2 (.loop [] [] (.seq (.seq (.seq (.region [⟨some 67, (.move (.tmp 11)), none⟩, ⟨some 68, (.move (.tmp 1)), none⟩, ⟨some 69, (.lenS (.tmp 68)), none⟩, ⟨some 70, (.bin .lss (.tmp 67) (.tmp 69)), none⟩]) (.clr [69, 68, 67])) (.cond (.tmp 70) (.seq (.clr [70]) .skip) (.seq (.clr [70, 11, 6, 1]) (.exit 2)))) (.seq (.block 3 (.seq (.seq (.seq (.region [⟨some 73, (.move (.tmp 6)), none⟩, ⟨some 74, (.move (.tmp 11)), none⟩, ⟨some 75, (.iaddrS 1 (.tmp 73) (.tmp 74)), none⟩, ⟨some 76, (.load none (.tmp 75)), none⟩, ⟨some 77, (.move (.tmp 1)), none⟩, ⟨some 78, (.move (.tmp 11)), none⟩, ⟨some 79, (.iaddrS 1 (.tmp 77) (.tmp 78)), none⟩, ⟨some 80, (.load none (.tmp 79)), none⟩, ⟨some 81, (.bin .neq (.tmp 76) (.tmp 80)), none⟩]) (.clr [80, 79, 78, 77, 76, 75, 74, 73])) (.cond (.tmp 81) (.seq (.clr [81, 11, 9, 8, 7, 6, 1]) (.seq (.region [⟨some 4, (.move (.cst (.bool false))), none⟩]) .ret)) (.seq (.clr [81]) .skip))) (.seq (.region [⟨some 82, (.move (.tmp 6)), none⟩, ⟨some 83, (.move (.tmp 11)), none⟩, ⟨some 84, (.iaddrS 1 (.tmp 82) (.tmp 83)), none⟩, ⟨none, (.store 1 (.tmp 84) (.cst (.int .i64 5))), none⟩]) (.clr [84, 83, 82])))) (.seq (.region [⟨some 71, (.move (.tmp 11)), none⟩, ⟨some 72, (.bin .add (.tmp 71) (.cst (.int .i64 1))), none⟩, ⟨some 11, (.move (.tmp 72)), none⟩]) (.clr [72, 71]))))))) (.seq (.seq (.seq (.region [⟨some 85, (.move (.tmp 9)), none⟩, ⟨some 86, (.eqnil false NK.p (.tmp 85)), none⟩]) (.clr [85])) (.cond (.tmp 86) (.seq (.clr [86, 9]) (.seq (.seq (.region [⟨some 87, (.move (.tmp 7)), none⟩, ⟨some 88, (.eqnil false NK.p (.tmp 87)), none⟩, ⟨some 89, (.move (.tmp 88)), none⟩, ⟨some 90, (.move (.tmp 8)), some (89, true)⟩, ⟨some 91, (.call 11 [(.tmp 90)]), some (89, true)⟩, ⟨some 92, (.bin .eql (.tmp 91) (.cst (.int .i64 2))), some (89, true)⟩, ⟨some 93, (.pick (.tmp 89) (.tmp 92) (.cst (.bool false))), none⟩, ⟨some 94, (.move (.tmp 93)), none⟩, ⟨some 95, (.call 8 []), some (94, true)⟩, ⟨some 96, (.pick (.tmp 94) (.tmp 95) (.cst (.bool false))), none⟩, ⟨some 4, (.move (.tmp 96)), none⟩]) (.clr [96, 95, 94, 93, 92, 91, 90, 89, 88, 87, 8, 7])) .ret)) (.seq (.clr [86]) .skip))) (.seq (.seq (.region [⟨some 97, (.move (.tmp 7)), none⟩, ⟨some 98, (.eqnil true NK.p (.tmp 97)), none⟩, ⟨some 99, (.move (.tmp 98)), none⟩, ⟨some 100, (.move (.tmp 8)), some (99, true)⟩, ⟨some 101, (.call 11 [(.tmp 100)]), some (99, true)⟩, ⟨some 102, (.bin .eql (.tmp 101) (.cst (.int .i64 0))), some (99, true)⟩, ⟨some 103, (.pick (.tmp 99) (.tmp 102) (.cst (.bool false))), none⟩, ⟨some 104, (.move (.tmp 103)), none⟩, ⟨some 105, (.move (.tmp 7)), some (104, true)⟩, ⟨some 106, (.move (.tmp 9)), some (104, true)⟩, ⟨some 107, (.call 12 [(.tmp 105), (.tmp 106), (.cst (.int .i64 0))]), some (104, true)⟩, ⟨some 108, (.pick (.tmp 104) (.tmp 107) (.cst (.bool false))), none⟩, ⟨some 109, (.move (.tmp 108)), none⟩, ⟨some 110, (.call 8 []), some (109, true)⟩, ⟨some 111, (.pick (.tmp 109) (.tmp 110) (.cst (.bool false))), none⟩, ⟨some 4, (.move (.tmp 111)), none⟩]) (.clr [111, 110, 109, 108, 107, 106, 105, 104, 103, 102, 101, 100, 99, 98, 97, 9, 8, 7])) .ret)))))))
end Go.Am.T


set_option linter.unusedVariables false
set_option linter.unusedSimpArgs false
set_option maxRecDepth 10000
namespace Go.Am.T
attribute [local congr] selV_congr impB_congr
end Go.Am.T


set_option linter.unusedVariables false
set_option linter.unusedSimpArgs false
set_option maxRecDepth 10000
namespace Go.Am.T
attribute [local congr] selV_congr impB_congr
attribute [local irreducible] oA oB oP oR
end Go.Am.T


set_option linter.unusedVariables false
set_option linter.unusedSimpArgs false
set_option maxRecDepth 10000
namespace Go.Am.T
attribute [local congr] selV_congr impB_congr
def Dv.puts : Dv → Nat → List (List Int) → Dv
  | D, _, [] => D
  | D, f, v :: L => (D.doS f v).puts (f + 1) L
theorem doS_len (D : Dv) (f : Nat) (v : List Int) : (D.doS f v).S.length = D.S.length := by
  unfold Dv.doS
  cases D.out
  · exact List.length_set
  · rfl
theorem puts_len : ∀ (L : List (List Int)) (D : Dv) (f : Nat), (D.puts f L).S.length = D.S.length
  | [], _, _ => rfl
  | v :: L, D, f => by rw [Dv.puts, puts_len L, doS_len]
theorem puts_ok : ∀ (L : List (List Int)) (D : Dv) (f : Nat), D.Ok → (∀ v ∈ L, v.length = 64) → (D.puts f L).Ok
  | [], _, _, h, _ => h
  | v :: L, D, f, h, hv => puts_ok L _ _ (h.doS f (hv v (by simp))) fun w hw => hv w (by simp [hw])
theorem puts_app : ∀ (L M : List (List Int)) (D : Dv) (f : Nat), D.puts f (L ++ M) = (D.puts f L).puts (f + L.length) M
  | [], M, D, f => rfl
  | v :: L, M, D, f => by
    show (D.doS f v).puts (f + 1) (L ++ M) = _
    rw [puts_app L M, List.length_cons]
    show _ = ((D.doS f v).puts (f + 1) L).puts (f + (L.length + 1)) M
    rw [show f + 1 + L.length = f + (L.length + 1) by omega]
theorem puts_succ {D : Dv} {f k : Nat} {L : List (List Int)} (hk : k < L.length) : D.puts f (L.take (k + 1)) = (D.puts f (L.take k)).doS (f + k) L[k] := by
  rw [List.take_add_one, List.getElem?_eq_getElem hk, puts_app, List.length_take, Nat.min_eq_left (by omega)]
  rfl
theorem puts_out : ∀ (L : List (List Int)) (D : Dv) (f : Nat), D.out = true → D.lose.puts f L = D.lose
  | [], _, _, _ => rfl
  | v :: L, D, f, h => by
    have h2 : D.lose.out = true := h
    have e : D.lose.doS f v = D.lose := by simp only [Dv.doS, h2, cond_true]; rfl
    show (D.lose.doS f v).puts (f + 1) L = _
    rw [e, puts_out L D (f + 1) h]
theorem puts_stop {D : Dv} {f k : Nat} {L : List (List Int)} (hk : k < L.length) (ho : (D.puts f (L.take k)).out = true) : D.puts f L = D.puts f (L.take (k + 1)) := by
  have e : L = L.take (k + 1) ++ L.drop (k + 1) := (List.take_append_drop _ _).symm
  have e2 : D.puts f (L.take (k + 1)) = (D.puts f (L.take k)).lose := by rw [puts_succ hk]; simp only [Dv.doS, ho, cond_true]
  rw [e, puts_app, ← e, e2, puts_out _ _ _ ho]
structure RdS (H : Heap) (X : List Nat) (x : V) (L : List (List Int)) : Prop where
  len : lenA x = some L.length
  nstr : ∀ b, x ≠ .str b
  one : x.cells = [x] ∧ x ≠ .junk
  sec : ∀ v ∈ L, v.length = 64
  at_ : ∀ i, (h : i < L.length) → iaddrSA 64 x (.int .i64 (i : Nat)) = some (.ret (.iptr (L[i].map (V.int .u8)) 0)) ∨
    ∃ o v off cs, o ∉ X ∧ o < H.length ∧ iaddrSA 64 x (.int .i64 (i : Nat)) = some (.ret (.ptr o v off)) ∧ H[o]? = some ⟨v, .arr cs⟩ ∧ off + 64 ≤ cs.length ∧ List.take 64 (List.drop off cs) = L[i].map (V.int .u8)
theorem RdS.keep {H H' : Heap} {X : List Nat} {x : V} {L : List (List Int)} (h : RdS H X x L) (hl : H.length ≤ H'.length) (hk : ∀ p, p < H.length → p ∉ X → H'[p]? = H[p]?) : RdS H' X x L := by
  refine ⟨h.len, h.nstr, h.one, h.sec, fun i hi => ?_⟩
  rcases h.at_ i hi with q | ⟨o, v, off, cs, q0, q1, q2, q3, q4⟩
  · exact .inl q
  · exact .inr ⟨o, v, off, cs, q0, by omega, q2, by rw [hk o q1 q0]; exact q3, q4⟩
def Dv.room (D : Dv) (f : Int) (k : Nat) : Bool := decide (f ≥ 0) && (decide (f ≤ (D.S.length : Int)) && decide ((k : Int) ≤ (D.S.length : Int) - f))
def Dv.wrR (D : Dv) (i e f : Int) (L : List (List Int)) : Int := D.who i e (D.room f L.length)
def Dv.wr (D : Dv) (i e f : Int) (L : List (List Int)) : Dv := bif D.wrR i e f L == 0 then D.puts f.toNat L else D
theorem Dv.Ok.wr {D : Dv} (h : D.Ok) (i e f : Int) {L : List (List Int)} (hL : ∀ v ∈ L, v.length = 64) : (D.wr i e f L).Ok := by
  unfold Dv.wr
  cases D.wrR i e f L == 0
  · exact h
  · exact puts_ok L D _ h hL
theorem write1_gen {N n : Nat} (hn : 1 ≤ n) {K : Heap} {b0 b1 b2 b3 d o ver w0 w3 : Nat} {cap : Option Nat} {D : Dv} {f j : Int} {v : List Int} (ok : D.Ok) (hv : v.length = 64) (i0 : 0 ≤ f + j) (i1 : f + j < (D.S.length : Int))
    (h0 : K[b0]? = some ⟨w0, .var (v.map (V.int .u8))⟩) (h1 : K[b1]? = some ⟨1, .var [.ptr d 1 0]⟩) (h2 : K[b2]? = some ⟨1, .var [.int .i64 f]⟩) (h3 : K[b3]? = some ⟨w3, .var [.int .i64 j]⟩) (hd : K[d]? = some ⟨1, .var (D.cs (.view o ver 0 D.S.length 64 cap))⟩) (ho : K[o]? = some ⟨ver, .arr (D.S.flatten.map (V.int .u8))⟩) :
    callA am N n 54 [.ptr b0 w0 0, .ptr b1 1 0, .ptr b2 1 0, .ptr b3 w3 0] K = some (.tup [], K.set o ⟨ver, .arr ((D.S.set (f + j).toNat v).flatten.map (V.int .u8))⟩) := by
  obtain ⟨n, rfl⟩ : ∃ m, n = m + 1 := ⟨n - 1, by omega⟩
  have hlt := lt_of_get hd
  have hlo := lt_of_get ho
  have := ok.s4
  have w : IntKind.i64.wrap (f + j) = f + j := wrap64 (by omega) (by omega)
  have q1 := fun X => @dv_len D X ok.e8
  have q0 : ∀ X, List.take 1 (D.cs X) = [X] := fun X => rfl
  have l64 : (v.map (V.int .u8)).length = 64 := by simp [hv]
  have t64 : List.take 64 (v.map (V.int .u8)) = v.map (V.int .u8) := List.take_of_length_le (by simp [hv])
  have o64 := ints_one .u8 v
  have fl : (D.S.flatten.map (V.int .u8)).length = D.S.length * 64 := by rw [List.length_map, flat_len ok.sec]
  have le : (f + j).toNat * 64 + 64 ≤ D.S.length * 64 := by omega
  have fs := @flat_set D.S (f + j).toNat v ok.sec hv (by omega)
  generalize D.S.flatten.map (V.int .u8) = F at *
  generalize (D.S.set (f + j).toNat v).flatten.map (V.int .u8) = F' at *
  generalize v.map (V.int .u8) = vs at *
  generalize D.S.length = L at *
  refine call_keep_eq at54 rfl rfl (by decide) (sx_wp ?_)
  simp +contextual -implicitDefEqProofs (maxSteps := 10000000) only [sxb, plainD, stays, ↓selV_wt, ↓selV_wf, ↓impB_wt, ↓impB_wf, ↓selV_nor, ↓impB_nor, ↓selV_nt, ↓selV_nf, ↓impB_nt, ↓impB_nf, ↓selV_true, ↓selV_false, ↓selV_and, ↓impB_true, ↓impB_false, ↓impB_and, ↓prim_pick, ↓selV_nn, ↓impB_nn, doOp, get, ins, del, dels, Nat.reduceLT, Nat.reduceEqDiff, ↓reduceIte, reduceCtorEq, ne_eq, implies_true, prim, YLD, mkA, V.cells, Nat.reduceAdd, Nat.reduceSub, Nat.reduceMul, Nat.reduceLeDiff, loadA, cellsAt, nAg, packA, List.drop, List.take, List.head?, binA, unA, eqCells, eqCell, negB, fillA, storeA, Ob.with, indexedI, V.oneCell, intOf?, resA, resA1, packR, sealDepth, Int.reduceLT, Int.reduceLE, Int.reduceToNat, Int.reduceNeg, Int.reduceAdd, Int.reduceSub, Int.reduceMul, cond_true, cond_false, Int.reduceBNe, Int.reduceBEq, eq_self, deads, List.replicate, argsF, am54, isNil, List.append_nil, h0, h1, h2, h3, hd, ho, hlt, hlo, q1, q0, w, l64, t64, o64, fl, le, fs, iaddrSA, i0, i1]
theorem tail4 {H : Heap} {n : Nat} {a b c d : Ob} (hl : H.length = n + 4) (h0 : H[n]? = some a) (h1 : H[n + 1]? = some b) (h2 : H[n + 2]? = some c) (h3 : H[n + 3]? = some d) : H = H.take n ++ [a, b, c, d] := by
  apply List.ext_getElem?
  intro i
  have ht : (H.take n).length = n := by simp; omega
  rcases Nat.lt_or_ge i n with h | h
  · rw [List.getElem?_append_left (by omega), List.getElem?_take, if_pos h]
  · rw [List.getElem?_append_right (by omega), ht]
    obtain ⟨k, rfl⟩ : ∃ k, i = n + k := ⟨i - n, by omega⟩
    rw [Nat.add_sub_cancel_left]
    match k with
    | 0 => exact h0
    | 1 => exact h1
    | 2 => exact h2
    | 3 => exact h3
    | k + 4 => rw [List.getElem?_eq_none (by omega)]; simp
end Go.Am.T


set_option linter.unusedVariables false
set_option linter.unusedSimpArgs false
set_option maxRecDepth 10000
namespace Go.Am.T
attribute [local congr] selV_congr impB_congr
theorem box_at0 {h l : Heap} {n : Nat} (hl : h.length = n) : (h ++ l)[n]? = l[0]? := by subst hl; exact app_get0
theorem box_at {h l : Heap} {n k : Nat} (hl : h.length = n) : (h ++ l)[n + k]? = l[k]? := by subst hl; exact app_get
theorem box_st {h l : Heap} {n k : Nat} {x : Ob} (hl : h.length = n) : (h ++ l).set (n + k) x = h ++ l.set k x := by subst hl; exact app_set
set_option maxHeartbeats 4000000 in
theorem write_spec {N n : Nat} (hN : 5000 ≤ N) (hn : 4 ≤ n) {H : Heap} {d so : Nat} {D : Dv} (h : DAt H d so D) (i e f : Int) {x : V} {L : List (List Int)} (hx : RdS H [d, so] x L) :
    ∃ H', callA am N n 22 [.ptr d 1 0, .int .i64 i, .int .i64 e, .int .i64 f, x] H = some (.int .i64 (D.wrR i e f L), H') ∧ H.length ≤ H'.length ∧ (∀ p, p < H.length → p ≠ d → p ≠ so → H'[p]? = H[p]?) ∧ DAt H' d so (D.wr i e f L) := by
  obtain ⟨n, rfl⟩ : ∃ m, n = m + 1 := ⟨n - 1, by omega⟩
  obtain ⟨K, hK⟩ : ∃ K : Heap, K = H ++ [⟨1, .var [.ptr d 1 0]⟩, ⟨1, .var [.int .i64 f]⟩, ⟨0, .dead⟩, ⟨0, .dead⟩] := ⟨_, rfl⟩
  have hKl : K.length = H.length + 4 := by rw [hK]; simp
  have hKo : ∀ p, p < H.length → K[p]? = H[p]? := fun p hp => by rw [hK, List.getElem?_append_left hp]
  have D1 : DAt K d so D := by rw [hK]; exact h.app _
  have c48 := @there_spec N n (by omega) K _ _ D1.looks
  have c52 := @who_spec N n (by omega) K _ _ D1.looks i e (D.room f L.length)
  have ok := h.ok
  have s4 := ok.s4
  have lx := hx.len
  have nx := hx.nstr
  obtain ⟨ver, cap, hd, -⟩ := D1.ob
  have q1 := fun X => @dv_len D X ok.e8
  have q0 : ∀ X, List.take 1 (D.cs X) = [X] := fun X => rfl
  have eR : D.who i e (D.room f L.length) = D.wrR i e f L := rfl
  rw [eR] at c52
  suffices Hs : ∃ v H', callA am N (n + 1) 22 [.ptr d 1 0, .int .i64 i, .int .i64 e, .int .i64 f, x] H = some (v, H') ∧ v = .int .i64 (D.wrR i e f L) ∧ H.length ≤ H'.length ∧ (∀ p, p < H.length → p ≠ d → p ≠ so → H'[p]? = H[p]?) ∧ DAt H' d so (D.wr i e f L) by
    obtain ⟨v, H', h1, rfl, h2⟩ := Hs
    exact ⟨H', h1, h2⟩
  by_cases hf0 : f ≥ 0
  · have g0 : decide (f ≥ 0) = true := decide_eq_true hf0
    by_cases hf1 : f ≤ (D.S.length : Int)
    · have g1 : decide (f ≤ (D.S.length : Int)) = true := decide_eq_true hf1
      have wf : IntKind.i64.wrap ((D.S.length : Int) - f) = (D.S.length : Int) - f := wrap64 (by omega) (by omega)
      have er : D.room f L.length = decide ((L.length : Int) ≤ (D.S.length : Int) - f) := by rw [Dv.room, g0, g1]; rfl
      rw [er] at c52
      by_cases hw : D.wrR i e f L = 0
      · have e2 : D.wr i e f L = D.puts f.toNat L := by simp only [Dv.wr, hw]; rfl
        have hroom := who_more hw
        rw [er] at hroom
        have hroom' := of_decide_eq_true hroom
        have hlL : L.length ≤ 4096 := by omega
        rw [hw, hroom] at c52
        rw [e2, hw]
        have hb0 : K[H.length]? = some ⟨1, .var [.ptr d 1 0]⟩ := by rw [hK, app_get0]; rfl
        have hb1 : K[H.length + 1]? = some ⟨1, .var [.int .i64 f]⟩ := by rw [hK, app_get]; rfl
        refine call_keep at22 rfl rfl (by decide) (sx_wp ?_)
        have hK' := hK
        simp +contextual -implicitDefEqProofs (maxSteps := 10000000) only [sxb, plainD, stays, ↓selV_wt, ↓selV_wf, ↓impB_wt, ↓impB_wf, ↓selV_nor, ↓impB_nor, ↓selV_nt, ↓selV_nf, ↓impB_nt, ↓impB_nf, ↓selV_true, ↓selV_false, ↓selV_and, ↓impB_true, ↓impB_false, ↓impB_and, ↓prim_pick, ↓selV_nn, ↓impB_nn, doOp, get, ins, del, dels, Nat.reduceLT, Nat.reduceEqDiff, ↓reduceIte, reduceCtorEq, ne_eq, implies_true, prim, YLD, mkA, V.cells, Nat.reduceAdd, Nat.reduceSub, Nat.reduceMul, Nat.reduceLeDiff, loadA, cellsAt, nAg, packA, List.drop, List.take, List.head?, binA, unA, eqCells, eqCell, negB, fillA, storeA, Ob.with, indexedI, V.oneCell, intOf?, resA, resA1, packR, sealDepth, Int.reduceLT, Int.reduceLE, Int.reduceToNat, Int.reduceNeg, Int.reduceAdd, Int.reduceSub, Int.reduceMul, cond_true, cond_false, Int.reduceBNe, Int.reduceBEq, eq_self, deads, List.replicate, argsF, am22, isNil, app_get0, app_get, app_set0, app_set, ← hK', hb0, hb1, c48, c52, g0, g1, hroom, wf, lx, hd, q1, q0, lenA_view, mkA]
        clear c48 c52 hb0 hb1 hd hKo q1 q0
        refine sx_loop (fun k t K' => k ≤ L.length ∧ t = fr 62 [(5, .ptr H.length 1 0), (8, .ptr (H.length + 1) 1 0), (50, x), (51, .int .i64 L.length), (52, .int .i64 k)] ∧
          ∃ H' x2 x3, K' = H' ++ [⟨1, .var [.ptr d 1 0]⟩, ⟨1, .var [.int .i64 f]⟩, x2, x3] ∧ H'.length = H.length ∧ (∀ p, p < H.length → p ≠ d → p ≠ so → H'[p]? = H[p]?) ∧ DAt H' d so (D.puts f.toNat (L.take k))) L.length (by show L.length < N; omega) ⟨Nat.zero_le _, rfl, H, _, _, hK', rfl, fun _ _ _ _ => rfl, h⟩ ?_
        rintro k t K' hk ⟨hk', rfl, H', x2, x3, rfl, hl, hkp, hD⟩
        have a0 : ∀ l : Heap, (H' ++ l)[H.length]? = l[0]? := fun l => box_at0 hl
        have a1 : ∀ (l : Heap) (j : Nat), (H' ++ l)[H.length + j]? = l[j]? := fun l j => box_at hl
        have s1 : ∀ (l : Heap) (j : Nat) (z : Ob), (H' ++ l).set (H.length + j) z = H' ++ l.set j z := fun l j z => box_st hl
        obtain ⟨ld, lo⟩ := h.lt
        by_cases hlt : k < L.length
        · have c1 : decide ((k : Int) < (L.length : Int)) = true := decide_eq_true (by omega)
          have w4 : IntKind.i64.wrap ((k : Int) + 1) = ((k + 1 : Nat) : Int) := (wrap64 (by omega) (by omega)).trans (by omega)
          have hk1 : k + 1 ≤ L.length := by omega
          have hv := hx.sec L[k] (List.getElem_mem hlt)
          have l64 : (L[k].map (V.int .u8)).length = 64 := by simp [hv]
          have o64 := ints_one .u8 L[k]
          have t64 : List.take 64 (L[k].map (V.int .u8)) = L[k].map (V.int .u8) := List.take_of_length_le (by simp [hv])
          have sr := fun (z : List V) (hz : z.length = 64) => @sr_all z (L[k].map (V.int .u8)) (by rw [l64, hz])
          have hR := (hx.keep (H' := H' ++ [⟨1, .var [.ptr d 1 0]⟩, ⟨1, .var [.int .i64 f]⟩, x2, x3]) (by rw [List.length_append]; omega) (fun p hp hpx => by
            simp only [List.mem_cons, List.not_mem_nil, or_false, not_or] at hpx
            rw [List.getElem?_append_left (by omega), hkp p hp hpx.1 hpx.2])).at_ k hlt
          obtain ⟨Kx, hKx⟩ : ∃ Kx : Heap, Kx = H' ++ [⟨1, .var [.ptr d 1 0]⟩, ⟨1, .var [.int .i64 f]⟩, ⟨x2.ver + 1, .var [.int .i64 k]⟩, ⟨x3.ver + 1, .var (L[k].map (V.int .u8))⟩] := ⟨_, rfl⟩
          have Dx : DAt Kx d so (D.puts f.toNat (L.take k)) := by rw [hKx]; exact hD.app _
          obtain ⟨vx, cx, dx, ox⟩ := Dx.ob
          have eS : (D.puts f.toNat (L.take k)).S.length = D.S.length := puts_len _ _ _
          have ef : (f + (k : Int)).toNat = f.toNat + k := by omega
          obtain ⟨Hn, c53, n1, n2, n3⟩ := @doS_spec N n (by omega) Kx d so vx cx (D.puts f.toNat (L.take k)) 54 [.ptr (H.length + 3) (x3.ver + 1) 0, .ptr H.length 1 0, .ptr (H.length + 1) 1 0, .ptr (H.length + 2) (x2.ver + 1) 0] (f.toNat + k) L[k] Dx.ok hv Dx.apart dx ox (by decide) (fun go => by
            refine ⟨.tup [], ?_⟩
            have q := @write1_gen N (n - 1) (by omega) (Kx.set d ⟨1, .var ((D.puts f.toNat (L.take k)).tick.cs (.view so vx 0 (D.puts f.toNat (L.take k)).S.length 64 cx))⟩) (H.length + 3) H.length (H.length + 1) (H.length + 2) d so vx (x3.ver + 1) (x2.ver + 1) cx (D.puts f.toNat (L.take k)).tick f (k : Int) L[k]
              (Dx.ok.tick go) hv (by omega) (by show f + (k : Int) < ((D.puts f.toNat (L.take k)).S.length : Int); rw [eS]; omega)
              (by rw [List.getElem?_set_ne (by omega), hKx, a1]; rfl) (by rw [List.getElem?_set_ne (by omega), hKx, a0]; rfl) (by rw [List.getElem?_set_ne (by omega), hKx, a1]; rfl) (by rw [List.getElem?_set_ne (by omega), hKx, a1]; rfl)
              (List.getElem?_set_self (lt_of_get dx)) (by rw [List.getElem?_set_ne Dx.apart]; exact ox)
            rw [ef] at q
            exact q)
          have hKxl : Kx.length = H.length + 4 := by rw [hKx]; simp; omega
          have nb : ∀ j, j < 4 → Hn[H.length + j]? = Kx[H.length + j]? := fun j hj => n2 _ (by omega) (by omega)
          have b0' := n2 H.length (by omega) (by omega)
          have hHn := @tail4 Hn H.length _ _ _ _ (by omega) (b0'.trans (by rw [hKx, a0]; rfl)) ((nb 1 (by omega)).trans (by rw [hKx, a1]; rfl)) ((nb 2 (by omega)).trans (by rw [hKx, a1]; rfl)) ((nb 3 (by omega)).trans (by rw [hKx, a1]; rfl))
          have hkeep : ∀ p, p < H.length → p ≠ d → p ≠ so → (Hn.take H.length)[p]? = H[p]? := fun p hp h1 h2 => by
            rw [List.getElem?_take, if_pos hp, n2 p h1 h2, hKx, List.getElem?_append_left (by omega), hkp p hp h1 h2]
          have hDn : DAt (Hn.take H.length) d so (D.puts f.toNat (L.take (k + 1))) := by
            rw [puts_succ hlt]
            exact n3.keep fun p hp => by rw [List.getElem?_take, if_pos (by rcases hp with rfl | rfl <;> assumption)]
          have hln : (Hn.take H.length).length = H.length := by rw [List.length_take]; omega
          generalize hT : Hn.take H.length = Hn' at *
          have stop := fun ho => @puts_stop D f.toNat k L hlt ho
          rw [hHn, hKx] at c53
          clear hHn hKx Dx dx ox n1 n2 n3 nb b0' hD hx hkp hK' hK D1
          generalize L[k].map (V.int .u8) = as at *
          cases ho : (D.puts f.toNat (L.take k)).out with
          | true =>
            rw [ho] at c53
            simp only [Bool.not_true] at c53
            have stop' := stop ho
            rw [← stop'] at hDn
            rcases hR with r1 | ⟨o, v, off, cs, r0, r1, r2, r3, r4, r5⟩
            · simp +contextual -implicitDefEqProofs (maxSteps := 10000000) only [sxb, plainD, stays, ↓selV_wt, ↓selV_wf, ↓impB_wt, ↓impB_wf, ↓selV_nor, ↓impB_nor, ↓selV_nt, ↓selV_nf, ↓impB_nt, ↓impB_nf, ↓selV_true, ↓selV_false, ↓selV_and, ↓impB_true, ↓impB_false, ↓impB_and, ↓prim_pick, ↓selV_nn, ↓impB_nn, doOp, get, ins, del, dels, Nat.reduceLT, Nat.reduceEqDiff, ↓reduceIte, reduceCtorEq, ne_eq, implies_true, prim, YLD, mkA, V.cells, Nat.reduceAdd, Nat.reduceSub, Nat.reduceMul, Nat.reduceLeDiff, loadA, cellsAt, nAg, packA, List.drop, List.take, List.head?, binA, unA, eqCells, eqCell, negB, fillA, storeA, Ob.with, indexedI, V.oneCell, intOf?, resA, resA1, packR, sealDepth, Int.reduceLT, Int.reduceLE, Int.reduceToNat, Int.reduceNeg, Int.reduceAdd, Int.reduceSub, Int.reduceMul, cond_true, cond_false, Int.reduceBNe, Int.reduceBEq, eq_self, deads, List.replicate, argsF, c1, r1, l64, o64, t64, a0, a1, s1, mkA, sr, c53]
              exact ⟨by simp; omega, fun p hp h1 h2 => by rw [List.getElem?_append_left (by omega)]; exact hkeep p hp h1 h2, hDn.app _⟩
            · simp +contextual -implicitDefEqProofs (maxSteps := 10000000) only [sxb, plainD, stays, ↓selV_wt, ↓selV_wf, ↓impB_wt, ↓impB_wf, ↓selV_nor, ↓impB_nor, ↓selV_nt, ↓selV_nf, ↓impB_nt, ↓impB_nf, ↓selV_true, ↓selV_false, ↓selV_and, ↓impB_true, ↓impB_false, ↓impB_and, ↓prim_pick, ↓selV_nn, ↓impB_nn, doOp, get, ins, del, dels, Nat.reduceLT, Nat.reduceEqDiff, ↓reduceIte, reduceCtorEq, ne_eq, implies_true, prim, YLD, mkA, V.cells, Nat.reduceAdd, Nat.reduceSub, Nat.reduceMul, Nat.reduceLeDiff, loadA, cellsAt, nAg, packA, List.drop, List.take, List.head?, binA, unA, eqCells, eqCell, negB, fillA, storeA, Ob.with, indexedI, V.oneCell, intOf?, resA, resA1, packR, sealDepth, Int.reduceLT, Int.reduceLE, Int.reduceToNat, Int.reduceNeg, Int.reduceAdd, Int.reduceSub, Int.reduceMul, cond_true, cond_false, Int.reduceBNe, Int.reduceBEq, eq_self, deads, List.replicate, argsF, c1, r2, r3, r4, r5, l64, o64, t64, a0, a1, s1, mkA, sr, c53]
              exact ⟨by simp; omega, fun p hp h1 h2 => by rw [List.getElem?_append_left (by omega)]; exact hkeep p hp h1 h2, hDn.app _⟩
          | false =>
            rw [ho] at c53
            simp only [Bool.not_false] at c53
            rcases hR with r1 | ⟨o, v, off, cs, r0, r1, r2, r3, r4, r5⟩
            · simp +contextual -implicitDefEqProofs (maxSteps := 10000000) only [sxb, plainD, stays, ↓selV_wt, ↓selV_wf, ↓impB_wt, ↓impB_wf, ↓selV_nor, ↓impB_nor, ↓selV_nt, ↓selV_nf, ↓impB_nt, ↓impB_nf, ↓selV_true, ↓selV_false, ↓selV_and, ↓impB_true, ↓impB_false, ↓impB_and, ↓prim_pick, ↓selV_nn, ↓impB_nn, doOp, get, ins, del, dels, Nat.reduceLT, Nat.reduceEqDiff, ↓reduceIte, reduceCtorEq, ne_eq, implies_true, prim, YLD, mkA, V.cells, Nat.reduceAdd, Nat.reduceSub, Nat.reduceMul, Nat.reduceLeDiff, loadA, cellsAt, nAg, packA, List.drop, List.take, List.head?, binA, unA, eqCells, eqCell, negB, fillA, storeA, Ob.with, indexedI, V.oneCell, intOf?, resA, resA1, packR, sealDepth, Int.reduceLT, Int.reduceLE, Int.reduceToNat, Int.reduceNeg, Int.reduceAdd, Int.reduceSub, Int.reduceMul, cond_true, cond_false, Int.reduceBNe, Int.reduceBEq, eq_self, deads, List.replicate, argsF, c1, r1, l64, o64, t64, a0, a1, s1, mkA, sr, c53, w4, hk1, hlt]
              exact ⟨_, _, _, rfl, hln, hkeep, hDn⟩
            · simp +contextual -implicitDefEqProofs (maxSteps := 10000000) only [sxb, plainD, stays, ↓selV_wt, ↓selV_wf, ↓impB_wt, ↓impB_wf, ↓selV_nor, ↓impB_nor, ↓selV_nt, ↓selV_nf, ↓impB_nt, ↓impB_nf, ↓selV_true, ↓selV_false, ↓selV_and, ↓impB_true, ↓impB_false, ↓impB_and, ↓prim_pick, ↓selV_nn, ↓impB_nn, doOp, get, ins, del, dels, Nat.reduceLT, Nat.reduceEqDiff, ↓reduceIte, reduceCtorEq, ne_eq, implies_true, prim, YLD, mkA, V.cells, Nat.reduceAdd, Nat.reduceSub, Nat.reduceMul, Nat.reduceLeDiff, loadA, cellsAt, nAg, packA, List.drop, List.take, List.head?, binA, unA, eqCells, eqCell, negB, fillA, storeA, Ob.with, indexedI, V.oneCell, intOf?, resA, resA1, packR, sealDepth, Int.reduceLT, Int.reduceLE, Int.reduceToNat, Int.reduceNeg, Int.reduceAdd, Int.reduceSub, Int.reduceMul, cond_true, cond_false, Int.reduceBNe, Int.reduceBEq, eq_self, deads, List.replicate, argsF, c1, r2, r3, r4, r5, l64, o64, t64, a0, a1, s1, mkA, sr, c53, w4, hk1, hlt]
              exact ⟨_, _, _, rfl, hln, hkeep, hDn⟩
        · have e8 : k = L.length := by omega
          subst e8
          have c1 : decide ((L.length : Int) < (L.length : Int)) = false := decide_eq_false (by omega)
          rw [List.take_length] at hD
          simp +contextual -implicitDefEqProofs (maxSteps := 10000000) only [sxb, plainD, stays, ↓selV_wt, ↓selV_wf, ↓impB_wt, ↓impB_wf, ↓selV_nor, ↓impB_nor, ↓selV_nt, ↓selV_nf, ↓impB_nt, ↓impB_nf, ↓selV_true, ↓selV_false, ↓selV_and, ↓impB_true, ↓impB_false, ↓impB_and, ↓prim_pick, ↓selV_nn, ↓impB_nn, doOp, get, ins, del, dels, Nat.reduceLT, Nat.reduceEqDiff, ↓reduceIte, reduceCtorEq, ne_eq, implies_true, prim, YLD, mkA, V.cells, Nat.reduceAdd, Nat.reduceSub, Nat.reduceMul, Nat.reduceLeDiff, loadA, cellsAt, nAg, packA, List.drop, List.take, List.head?, binA, unA, eqCells, eqCell, negB, fillA, storeA, Ob.with, indexedI, V.oneCell, intOf?, resA, resA1, packR, sealDepth, Int.reduceLT, Int.reduceLE, Int.reduceToNat, Int.reduceNeg, Int.reduceAdd, Int.reduceSub, Int.reduceMul, cond_true, cond_false, Int.reduceBNe, Int.reduceBEq, eq_self, deads, List.replicate, argsF, c1]
          exact ⟨by simp; omega, fun p hp h1 h2 => by rw [List.getElem?_append_left (by omega)]; exact hkp p hp h1 h2, hD.app _⟩
      · have hne : (D.wrR i e f L != 0) = true := by simpa using hw
        have e2 : D.wr i e f L = D := by
          have : (D.wrR i e f L == 0) = false := by simpa using hw
          simp only [Dv.wr, this, cond_false]
        rw [e2]
        refine call_keep at22 rfl rfl (by decide) (sx_wp ?_)
        have hK' := hK
        have hb0 : K[H.length]? = some ⟨1, .var [.ptr d 1 0]⟩ := by rw [hK, app_get0]; rfl
        have hb1 : K[H.length + 1]? = some ⟨1, .var [.int .i64 f]⟩ := by rw [hK, app_get]; rfl
        generalize D.wrR i e f L = R at *
        simp +contextual -implicitDefEqProofs (maxSteps := 10000000) only [sxb, plainD, stays, ↓selV_wt, ↓selV_wf, ↓impB_wt, ↓impB_wf, ↓selV_nor, ↓impB_nor, ↓selV_nt, ↓selV_nf, ↓impB_nt, ↓impB_nf, ↓selV_true, ↓selV_false, ↓selV_and, ↓impB_true, ↓impB_false, ↓impB_and, ↓prim_pick, ↓selV_nn, ↓impB_nn, doOp, get, ins, del, dels, Nat.reduceLT, Nat.reduceEqDiff, ↓reduceIte, reduceCtorEq, ne_eq, implies_true, prim, YLD, mkA, V.cells, Nat.reduceAdd, Nat.reduceSub, Nat.reduceMul, Nat.reduceLeDiff, loadA, cellsAt, nAg, packA, List.drop, List.take, List.head?, binA, unA, eqCells, eqCell, negB, fillA, storeA, Ob.with, indexedI, V.oneCell, intOf?, resA, resA1, packR, sealDepth, Int.reduceLT, Int.reduceLE, Int.reduceToNat, Int.reduceNeg, Int.reduceAdd, Int.reduceSub, Int.reduceMul, cond_true, cond_false, Int.reduceBNe, Int.reduceBEq, eq_self, deads, List.replicate, argsF, am22, isNil, app_get0, app_get, app_set0, app_set, ← hK', hb0, hb1, c48, c52, g0, g1, wf, lx, hd, q1, q0, lenA_view, mkA, hne]
        exact ⟨by omega, fun p hp _ _ => hKo p hp, D1⟩
    · have g1 : decide (f ≤ (D.S.length : Int)) = false := decide_eq_false hf1
      have er : D.room f L.length = false := by rw [Dv.room, g0, g1]; rfl
      rw [er] at c52
      have hw : D.wrR i e f L ≠ 0 := fun hw => by
        have := who_more (b := D.room f L.length) hw
        rw [er] at this
        cases this
      have hne : (D.wrR i e f L != 0) = true := by simpa using hw
      have e2 : D.wr i e f L = D := by
        have : (D.wrR i e f L == 0) = false := by simpa using hw
        simp only [Dv.wr, this, cond_false]
      rw [e2]
      refine call_keep at22 rfl rfl (by decide) (sx_wp ?_)
      have hK' := hK
      have hb0 : K[H.length]? = some ⟨1, .var [.ptr d 1 0]⟩ := by rw [hK, app_get0]; rfl
      have hb1 : K[H.length + 1]? = some ⟨1, .var [.int .i64 f]⟩ := by rw [hK, app_get]; rfl
      generalize D.wrR i e f L = R at *
      simp +contextual -implicitDefEqProofs (maxSteps := 10000000) only [sxb, plainD, stays, ↓selV_wt, ↓selV_wf, ↓impB_wt, ↓impB_wf, ↓selV_nor, ↓impB_nor, ↓selV_nt, ↓selV_nf, ↓impB_nt, ↓impB_nf, ↓selV_true, ↓selV_false, ↓selV_and, ↓impB_true, ↓impB_false, ↓impB_and, ↓prim_pick, ↓selV_nn, ↓impB_nn, doOp, get, ins, del, dels, Nat.reduceLT, Nat.reduceEqDiff, ↓reduceIte, reduceCtorEq, ne_eq, implies_true, prim, YLD, mkA, V.cells, Nat.reduceAdd, Nat.reduceSub, Nat.reduceMul, Nat.reduceLeDiff, loadA, cellsAt, nAg, packA, List.drop, List.take, List.head?, binA, unA, eqCells, eqCell, negB, fillA, storeA, Ob.with, indexedI, V.oneCell, intOf?, resA, resA1, packR, sealDepth, Int.reduceLT, Int.reduceLE, Int.reduceToNat, Int.reduceNeg, Int.reduceAdd, Int.reduceSub, Int.reduceMul, cond_true, cond_false, Int.reduceBNe, Int.reduceBEq, eq_self, deads, List.replicate, argsF, am22, isNil, app_get0, app_get, app_set0, app_set, ← hK', hb0, hb1, c48, c52, g0, g1, lx, hd, q1, q0, lenA_view, mkA, hne]
      exact ⟨by omega, fun p hp _ _ => hKo p hp, D1⟩
  · have g0 : decide (f ≥ 0) = false := decide_eq_false hf0
    have er : D.room f L.length = false := by rw [Dv.room, g0]; rfl
    rw [er] at c52
    have hw : D.wrR i e f L ≠ 0 := fun hw => by
      have := who_more (b := D.room f L.length) hw
      rw [er] at this
      cases this
    have hne : (D.wrR i e f L != 0) = true := by simpa using hw
    have e2 : D.wr i e f L = D := by
      have : (D.wrR i e f L == 0) = false := by simpa using hw
      simp only [Dv.wr, this, cond_false]
    rw [e2]
    refine call_keep at22 rfl rfl (by decide) (sx_wp ?_)
    have hK' := hK
    have hb0 : K[H.length]? = some ⟨1, .var [.ptr d 1 0]⟩ := by rw [hK, app_get0]; rfl
    have hb1 : K[H.length + 1]? = some ⟨1, .var [.int .i64 f]⟩ := by rw [hK, app_get]; rfl
    generalize D.wrR i e f L = R at *
    simp +contextual -implicitDefEqProofs (maxSteps := 10000000) only [sxb, plainD, stays, ↓selV_wt, ↓selV_wf, ↓impB_wt, ↓impB_wf, ↓selV_nor, ↓impB_nor, ↓selV_nt, ↓selV_nf, ↓impB_nt, ↓impB_nf, ↓selV_true, ↓selV_false, ↓selV_and, ↓impB_true, ↓impB_false, ↓impB_and, ↓prim_pick, ↓selV_nn, ↓impB_nn, doOp, get, ins, del, dels, Nat.reduceLT, Nat.reduceEqDiff, ↓reduceIte, reduceCtorEq, ne_eq, implies_true, prim, YLD, mkA, V.cells, Nat.reduceAdd, Nat.reduceSub, Nat.reduceMul, Nat.reduceLeDiff, loadA, cellsAt, nAg, packA, List.drop, List.take, List.head?, binA, unA, eqCells, eqCell, negB, fillA, storeA, Ob.with, indexedI, V.oneCell, intOf?, resA, resA1, packR, sealDepth, Int.reduceLT, Int.reduceLE, Int.reduceToNat, Int.reduceNeg, Int.reduceAdd, Int.reduceSub, Int.reduceMul, cond_true, cond_false, Int.reduceBNe, Int.reduceBEq, eq_self, deads, List.replicate, argsF, am22, isNil, app_get0, app_get, app_set0, app_set, ← hK', hb0, hb1, c48, c52, g0, lx, hd, q1, q0, lenA_view, mkA, hne]
    exact ⟨by omega, fun p hp _ _ => hKo p hp, D1⟩
end Go.Am.T


set_option linter.unusedVariables false
set_option linter.unusedSimpArgs false
set_option maxRecDepth 10000
namespace Go.Am.T
attribute [local congr] selV_congr impB_congr
set_option maxHeartbeats 4000000 in
theorem rwrite_spec {N n : Nat} (hN : 5000 ≤ N) (hn : 3 ≤ n) {H : Heap} {r s e0 : Nat} {D : Dv} (h : RAt H r s e0 D) (i e f : Int) {x : V} {L : List (List Int)} (hx : RdS H [r, s] x L) (hL0 : L.length ≤ 4611686018427387903) :
    ∃ H', callA am N n 42 [.ptr r 1 0, .int .i64 i, .int .i64 e, .int .i64 f, x] H = some (.int .i64 (D.wrR i e f L), H') ∧ H'.length = H.length ∧ (∀ p, p ≠ r → p ≠ s → H'[p]? = H[p]?) ∧ RAt H' r s e0 (D.wr i e f L) := by
  obtain ⟨n, rfl⟩ : ∃ m, n = m + 1 := ⟨n - 1, by omega⟩
  have c60 := @rwho_spec N n (by omega) H _ _ h.looks i e
  have ok := h.ok
  have s4 := ok.s4
  have lx := hx.len
  have nx := hx.nstr
  obtain ⟨l1, l2, l3⟩ := h.lt
  obtain ⟨ver, cap, ver', cap', hr, hs, he⟩ := h.ob
  have e2 : ∀ D' : Dv, D'.rcs (.view s ver 0 D.S.length 64 cap) (.view e0 ver' 0 D.n 1 cap') = [.view s ver 0 D.S.length 64 cap, .view e0 ver' 0 D.n 1 cap', .int .i64 D'.rl, .bool D'.lost, .int .i64 D'.done] := fun D' => rfl
  have hr' := hr
  rw [e2] at hr'
  suffices Hs : ∃ v H', callA am N (n + 1) 42 [.ptr r 1 0, .int .i64 i, .int .i64 e, .int .i64 f, x] H = some (v, H') ∧ v = .int .i64 (D.wrR i e f L) ∧ H'.length = H.length ∧ (∀ p, p ≠ r → p ≠ s → H'[p]? = H[p]?) ∧ RAt H' r s e0 (D.wr i e f L) by
    obtain ⟨v, H', h1, rfl, h2⟩ := Hs
    exact ⟨H', h1, h2⟩
  have bad : ∀ R : Int, R ≠ 0 → D.wrR i e f L = R → D.wr i e f L = D := fun R hR hE => by
    have h1 : (R == 0) = false := by simpa using hR
    simp only [Dv.wr, hE, h1, cond_false]
  by_cases h0 : D.rwho i e = 0
  · obtain ⟨gi, x0, x1⟩ := rwho_zero h0
    obtain ⟨i0, i1⟩ := isNode_true gi
    rw [h0] at c60
    by_cases hf0 : f < 0
    · have g0 : decide (f < 0) = true := decide_eq_true hf0
      have er : D.room f L.length = false := by rw [Dv.room, decide_eq_false (show ¬ f ≥ 0 by omega)]; rfl
      have hw : D.wrR i e f L = 2 := by rw [Dv.wrR, er, who_no]
      rw [hw, bad 2 (by decide) hw]
      refine call_keep at42 rfl rfl (by decide) (sx_wp ?_)
      simp +contextual -implicitDefEqProofs (maxSteps := 10000000) only [sxb, plainD, stays, ↓selV_wt, ↓selV_wf, ↓impB_wt, ↓impB_wf, ↓selV_nor, ↓impB_nor, ↓selV_nt, ↓selV_nf, ↓impB_nt, ↓impB_nf, ↓selV_true, ↓selV_false, ↓selV_and, ↓impB_true, ↓impB_false, ↓impB_and, ↓prim_pick, ↓selV_nn, ↓impB_nn, doOp, get, ins, del, dels, Nat.reduceLT, Nat.reduceEqDiff, ↓reduceIte, reduceCtorEq, ne_eq, implies_true, prim, YLD, mkA, V.cells, Nat.reduceAdd, Nat.reduceSub, Nat.reduceMul, Nat.reduceLeDiff, loadA, cellsAt, nAg, packA, List.drop, List.take, List.head?, binA, unA, eqCells, eqCell, negB, fillA, storeA, Ob.with, indexedI, V.oneCell, intOf?, resA, resA1, packR, sealDepth, Int.reduceLT, Int.reduceLE, Int.reduceToNat, Int.reduceNeg, Int.reduceAdd, Int.reduceSub, Int.reduceMul, cond_true, cond_false, Int.reduceBNe, Int.reduceBEq, eq_self, deads, List.replicate, argsF, am42, isNil, c60, hr', g0, List.append_nil]
      exact h
    · have g0 : decide (f < 0) = false := decide_eq_false hf0
      by_cases hf1 : f > (D.S.length : Int)
      · have g1 : decide (f > (D.S.length : Int)) = true := decide_eq_true hf1
        have er : D.room f L.length = false := by rw [Dv.room, decide_eq_false (show ¬ f ≤ (D.S.length : Int) by omega)]; simp
        have hw : D.wrR i e f L = 2 := by rw [Dv.wrR, er, who_no]
        rw [hw, bad 2 (by decide) hw]
        refine call_keep at42 rfl rfl (by decide) (sx_wp ?_)
        simp +contextual -implicitDefEqProofs (maxSteps := 10000000) only [sxb, plainD, stays, ↓selV_wt, ↓selV_wf, ↓impB_wt, ↓impB_wf, ↓selV_nor, ↓impB_nor, ↓selV_nt, ↓selV_nf, ↓impB_nt, ↓impB_nf, ↓selV_true, ↓selV_false, ↓selV_and, ↓impB_true, ↓impB_false, ↓impB_and, ↓prim_pick, ↓selV_nn, ↓impB_nn, doOp, get, ins, del, dels, Nat.reduceLT, Nat.reduceEqDiff, ↓reduceIte, reduceCtorEq, ne_eq, implies_true, prim, YLD, mkA, V.cells, Nat.reduceAdd, Nat.reduceSub, Nat.reduceMul, Nat.reduceLeDiff, loadA, cellsAt, nAg, packA, List.drop, List.take, List.head?, binA, unA, eqCells, eqCell, negB, fillA, storeA, Ob.with, indexedI, V.oneCell, intOf?, resA, resA1, packR, sealDepth, Int.reduceLT, Int.reduceLE, Int.reduceToNat, Int.reduceNeg, Int.reduceAdd, Int.reduceSub, Int.reduceMul, cond_true, cond_false, Int.reduceBNe, Int.reduceBEq, eq_self, deads, List.replicate, argsF, am42, isNil, c60, hr', g0, g1, lenA_view, lx, List.append_nil]
        exact h
      · have g1 : decide (f > (D.S.length : Int)) = false := decide_eq_false hf1
        have wf : IntKind.i64.wrap ((D.S.length : Int) - f) = (D.S.length : Int) - f := wrap64 (by omega) (by omega)
        by_cases hf2 : (L.length : Int) > (D.S.length : Int) - f
        · have g2 : decide ((L.length : Int) > (D.S.length : Int) - f) = true := decide_eq_true hf2
          have er : D.room f L.length = false := by rw [Dv.room, decide_eq_false (show ¬ (L.length : Int) ≤ (D.S.length : Int) - f by omega)]; simp
          have hw : D.wrR i e f L = 2 := by rw [Dv.wrR, er, who_no]
          rw [hw, bad 2 (by decide) hw]
          refine call_keep at42 rfl rfl (by decide) (sx_wp ?_)
          simp +contextual -implicitDefEqProofs (maxSteps := 10000000) only [sxb, plainD, stays, ↓selV_wt, ↓selV_wf, ↓impB_wt, ↓impB_wf, ↓selV_nor, ↓impB_nor, ↓selV_nt, ↓selV_nf, ↓impB_nt, ↓impB_nf, ↓selV_true, ↓selV_false, ↓selV_and, ↓impB_true, ↓impB_false, ↓impB_and, ↓prim_pick, ↓selV_nn, ↓impB_nn, doOp, get, ins, del, dels, Nat.reduceLT, Nat.reduceEqDiff, ↓reduceIte, reduceCtorEq, ne_eq, implies_true, prim, YLD, mkA, V.cells, Nat.reduceAdd, Nat.reduceSub, Nat.reduceMul, Nat.reduceLeDiff, loadA, cellsAt, nAg, packA, List.drop, List.take, List.head?, binA, unA, eqCells, eqCell, negB, fillA, storeA, Ob.with, indexedI, V.oneCell, intOf?, resA, resA1, packR, sealDepth, Int.reduceLT, Int.reduceLE, Int.reduceToNat, Int.reduceNeg, Int.reduceAdd, Int.reduceSub, Int.reduceMul, cond_true, cond_false, Int.reduceBNe, Int.reduceBEq, eq_self, deads, List.replicate, argsF, am42, isNil, c60, hr', g0, g1, g2, wf, lenA_view, lx, List.append_nil]
          exact h
        · have g2 : decide ((L.length : Int) > (D.S.length : Int) - f) = false := decide_eq_false hf2
          have er : D.room f L.length = true := by rw [Dv.room, decide_eq_true (show f ≥ 0 by omega), decide_eq_true (show f ≤ (D.S.length : Int) by omega), decide_eq_true (show (L.length : Int) ≤ (D.S.length : Int) - f by omega)]; rfl
          have le := (List.length_map (f := V.int .i64) (as := D.eps)).trans (eps_len ok)
          have ti : List.take 1 (List.drop i.toNat (D.eps.map (V.int .i64))) = [.int .i64 (D.ep i)] := by
            have hlt : i.toNat < D.eps.length := by rw [eps_len ok]; omega
            have e3 := eps_at ok (i := i.toNat) (by omega)
            rw [← List.map_drop, List.drop_eq_getElem_cons hlt]
            rw [List.getElem?_eq_getElem hlt] at e3
            rw [Option.some.inj e3]; rfl
          have n1 : i.toNat + 1 ≤ D.n := by omega
          cases gx : decide (e < D.ep i) with
          | true =>
            have hw : D.wrR i e f L = 8 := by rw [Dv.wrR, er, who_yes h0, gx]; rfl
            rw [hw, bad 8 (by decide) hw]
            refine call_keep at42 rfl rfl (by decide) (sx_wp ?_)
            simp +contextual -implicitDefEqProofs (maxSteps := 10000000) only [sxb, plainD, stays, ↓selV_wt, ↓selV_wf, ↓impB_wt, ↓impB_wf, ↓selV_nor, ↓impB_nor, ↓selV_nt, ↓selV_nf, ↓impB_nt, ↓impB_nf, ↓selV_true, ↓selV_false, ↓selV_and, ↓impB_true, ↓impB_false, ↓impB_and, ↓prim_pick, ↓selV_nn, ↓impB_nn, doOp, get, ins, del, dels, Nat.reduceLT, Nat.reduceEqDiff, ↓reduceIte, reduceCtorEq, ne_eq, implies_true, prim, YLD, mkA, V.cells, Nat.reduceAdd, Nat.reduceSub, Nat.reduceMul, Nat.reduceLeDiff, loadA, cellsAt, nAg, packA, List.drop, List.take, List.head?, binA, unA, eqCells, eqCell, negB, fillA, storeA, Ob.with, indexedI, V.oneCell, intOf?, resA, resA1, packR, sealDepth, Int.reduceLT, Int.reduceLE, Int.reduceToNat, Int.reduceNeg, Int.reduceAdd, Int.reduceSub, Int.reduceMul, cond_true, cond_false, Int.reduceBNe, Int.reduceBEq, eq_self, deads, List.replicate, argsF, am42, isNil, c60, hr', g0, g1, g2, wf, lenA_view, lx, he, iaddrS_v, i0, i1, n1, le, ti, gx, List.append_nil]
            exact h
          | false =>
            have hw : D.wrR i e f L = 0 := by rw [Dv.wrR, er, who_yes h0, gx]; rfl
            have ew : D.wr i e f L = D.puts f.toNat L := by simp only [Dv.wr, hw]; rfl
            rw [hw, ew]
            have hlL : L.length ≤ 4096 := by omega
            obtain ⟨n, rfl⟩ : ∃ m, n = m + 1 := ⟨n - 1, by omega⟩
            refine call_keep at42 rfl rfl (by decide) (sx_wp ?_)
            simp +contextual -implicitDefEqProofs (maxSteps := 10000000) only [sxb, plainD, stays, ↓selV_wt, ↓selV_wf, ↓impB_wt, ↓impB_wf, ↓selV_nor, ↓impB_nor, ↓selV_nt, ↓selV_nf, ↓impB_nt, ↓impB_nf, ↓selV_true, ↓selV_false, ↓selV_and, ↓impB_true, ↓impB_false, ↓impB_and, ↓prim_pick, ↓selV_nn, ↓impB_nn, doOp, get, ins, del, dels, Nat.reduceLT, Nat.reduceEqDiff, ↓reduceIte, reduceCtorEq, ne_eq, implies_true, prim, YLD, mkA, V.cells, Nat.reduceAdd, Nat.reduceSub, Nat.reduceMul, Nat.reduceLeDiff, loadA, cellsAt, nAg, packA, List.drop, List.take, List.head?, binA, unA, eqCells, eqCell, negB, fillA, storeA, Ob.with, indexedI, V.oneCell, intOf?, resA, resA1, packR, sealDepth, Int.reduceLT, Int.reduceLE, Int.reduceToNat, Int.reduceNeg, Int.reduceAdd, Int.reduceSub, Int.reduceMul, cond_true, cond_false, Int.reduceBNe, Int.reduceBEq, eq_self, deads, List.replicate, argsF, am42, isNil, c60, hr', g0, g1, g2, wf, lenA_view, lx, he, iaddrS_v, i0, i1, n1, le, ti, gx, List.append_nil]
            clear c60 hr hs he hr' e2 ti
            refine sx_loop (fun k t K => k ≤ L.length ∧ t = fr 73 [(0, .ptr r 1 0), (3, .int .i64 f), (4, x), (11, .int .i64 k)] ∧ K.length = H.length ∧ (∀ p, p ≠ r → p ≠ s → K[p]? = H[p]?) ∧ RAt K r s e0 (D.puts f.toNat (L.take k))) L.length (by show L.length < N; omega) ⟨Nat.zero_le _, rfl, rfl, fun _ _ _ => rfl, h⟩ ?_
            rintro k t K hk ⟨hk', rfl, hl, hkp, hD⟩
            by_cases hlt : k < L.length
            · have c1 : decide ((k : Int) < (L.length : Int)) = true := decide_eq_true (by omega)
              have w4 : IntKind.i64.wrap ((k : Int) + 1) = ((k + 1 : Nat) : Int) := (wrap64 (by omega) (by omega)).trans (by omega)
              have w5 : IntKind.i64.wrap (f + (k : Int)) = f + (k : Int) := wrap64 (by omega) (by omega)
              have hk1 : k + 1 ≤ L.length := by omega
              have hv := hx.sec L[k] (List.getElem_mem hlt)
              have l64 : (L[k].map (V.int .u8)).length = 64 := by simp [hv]
              have o64 := ints_one .u8 L[k]
              have t64 : List.take 64 (L[k].map (V.int .u8)) = L[k].map (V.int .u8) := List.take_of_length_le (by simp [hv])
              obtain ⟨ver, cap, ver', cap', hr, hs, he⟩ := hD.ob
              have eS : (D.puts f.toNat (L.take k)).S.length = D.S.length := puts_len _ _ _
              have okx := hD.ok
              have hsucc := @puts_succ D f.toNat k L hlt
              have ef : (f + (k : Int)).toNat = f.toNat + k := by omega
              obtain ⟨m1, m2, m3⟩ := hD.lt
              cases ho : (D.puts f.toNat (L.take k)).out with
              | true =>
                have c61 := @rdoes_no N n K r _ _ _ hr okx ho
                have hres := hD.putLose hr hs he
                have ed : (D.puts f.toNat (L.take k)).doS (f.toNat + k) L[k] = (D.puts f.toNat (L.take k)).lose := by simp only [Dv.doS, ho, cond_true]
                rw [ed] at hsucc
                rw [← hsucc] at hres
                have gl : ∀ z : Ob, (K.set r z).length = K.length := fun z => List.length_set
                have gn : ∀ (z : Ob) (p : Nat), p ≠ r → (K.set r z)[p]? = K[p]? := fun z p hp => List.getElem?_set_ne (Ne.symm hp)
                simp +contextual -implicitDefEqProofs (maxSteps := 10000000) only [sxb, plainD, stays, ↓selV_wt, ↓selV_wf, ↓impB_wt, ↓impB_wf, ↓selV_nor, ↓impB_nor, ↓selV_nt, ↓selV_nf, ↓impB_nt, ↓impB_nf, ↓selV_true, ↓selV_false, ↓selV_and, ↓impB_true, ↓impB_false, ↓impB_and, ↓prim_pick, ↓selV_nn, ↓impB_nn, doOp, get, ins, del, dels, Nat.reduceLT, Nat.reduceEqDiff, ↓reduceIte, reduceCtorEq, ne_eq, implies_true, prim, YLD, mkA, V.cells, Nat.reduceAdd, Nat.reduceSub, Nat.reduceMul, Nat.reduceLeDiff, loadA, cellsAt, nAg, packA, List.drop, List.take, List.head?, binA, unA, eqCells, eqCell, negB, fillA, storeA, Ob.with, indexedI, V.oneCell, intOf?, resA, resA1, packR, sealDepth, Int.reduceLT, Int.reduceLE, Int.reduceToNat, Int.reduceNeg, Int.reduceAdd, Int.reduceSub, Int.reduceMul, cond_true, cond_false, Int.reduceBNe, Int.reduceBEq, eq_self, deads, List.replicate, argsF, lx, c1, c61, w4, hk1, hlt, gl]
                exact ⟨hl, fun p h1 h2 => by rw [gn _ p h1, hkp p h1 h2], by rw [← hsucc]; exact hres⟩
              | false =>
                have c61 := @rdoes_yes N n K r _ _ _ hr okx ho
                have hres := hD.putS (f.toNat + k) hv ho hr hs he
                have ed : (D.puts f.toNat (L.take k)).doS (f.toNat + k) L[k] = (D.puts f.toNat (L.take k)).tick.setS (f.toNat + k) L[k] := by simp only [Dv.doS, ho, cond_false]
                rw [ed] at hsucc
                rw [← hsucc] at hres
                have gr : ∀ y : Ob, (K.set r y)[r]? = some y := fun y => List.getElem?_set_self m1
                have gs : ∀ y : Ob, (K.set r y)[s]? = some ⟨ver, .arr ((D.puts f.toNat (L.take k)).S.flatten.map (V.int .u8))⟩ := fun y => by rw [List.getElem?_set_ne h.rs]; exact hs
                have gl : ∀ (z z' : Ob), ((K.set r z).set s z').length = K.length := fun z z' => by rw [List.length_set, List.length_set]
                have gn : ∀ (z z' : Ob) (p : Nat), p ≠ r → p ≠ s → ((K.set r z).set s z')[p]? = K[p]? := fun z z' p hp hp' => by rw [List.getElem?_set_ne (Ne.symm hp'), List.getElem?_set_ne (Ne.symm hp)]
                have fs := @flat_set (D.puts f.toNat (L.take k)).S (f.toNat + k) L[k] okx.sec hv (by rw [eS]; omega)
                have fl : ((D.puts f.toNat (L.take k)).S.flatten.map (V.int .u8)).length = D.S.length * 64 := by rw [List.length_map, flat_len okx.sec, eS]
                have j0 : 0 ≤ f + (k : Int) := by omega
                have j1 : f + (k : Int) < (D.S.length : Int) := by omega
                have lc : (f.toNat + k) * 64 + 64 ≤ D.S.length * 64 := by omega
                have e3 : ∀ X Y, (D.puts f.toNat (L.take k)).tick.rcs X Y = [X, Y, .int .i64 (D.puts f.toNat (L.take k)).tick.rl, .bool (D.puts f.toNat (L.take k)).tick.lost, .int .i64 (D.puts f.toNat (L.take k)).tick.done] := fun X Y => rfl
                rw [eS] at c61 hres
                rw [e3] at c61 hres
                have hRd := (hx.keep (H' := K) (by omega) (fun p hp hpx => by
                  simp only [List.mem_cons, List.not_mem_nil, or_false, not_or] at hpx
                  exact hkp p hpx.1 hpx.2)).at_ k hlt
                generalize L[k].map (V.int .u8) = as at *
                rcases hRd with r1 | ⟨o, v, off, cs, r0, r1, r2, r3, r4, r5⟩
                · simp +contextual -implicitDefEqProofs (maxSteps := 10000000) only [sxb, plainD, stays, ↓selV_wt, ↓selV_wf, ↓impB_wt, ↓impB_wf, ↓selV_nor, ↓impB_nor, ↓selV_nt, ↓selV_nf, ↓impB_nt, ↓impB_nf, ↓selV_true, ↓selV_false, ↓selV_and, ↓impB_true, ↓impB_false, ↓impB_and, ↓prim_pick, ↓selV_nn, ↓impB_nn, doOp, get, ins, del, dels, Nat.reduceLT, Nat.reduceEqDiff, ↓reduceIte, reduceCtorEq, ne_eq, implies_true, prim, YLD, mkA, V.cells, Nat.reduceAdd, Nat.reduceSub, Nat.reduceMul, Nat.reduceLeDiff, loadA, cellsAt, nAg, packA, List.drop, List.take, List.head?, binA, unA, eqCells, eqCell, negB, fillA, storeA, Ob.with, indexedI, V.oneCell, intOf?, resA, resA1, packR, sealDepth, Int.reduceLT, Int.reduceLE, Int.reduceToNat, Int.reduceNeg, Int.reduceAdd, Int.reduceSub, Int.reduceMul, cond_true, cond_false, Int.reduceBNe, Int.reduceBEq, eq_self, deads, List.replicate, argsF, lx, c1, c61, w5, lenA_view, iaddrS_v, j0, j1, gr, gs, r1, l64, o64, t64, fl, lc, ef, fs, w4, hk1, hlt, gl]
                  exact ⟨hl, fun p h1 h2 => by rw [gn _ _ p h1 h2, hkp p h1 h2], hres⟩
                · have ro : ∀ y : Ob, (K.set r y)[o]? = some ⟨v, .arr cs⟩ := fun y => by
                    simp only [List.mem_cons, List.not_mem_nil, or_false, not_or] at r0
                    rw [List.getElem?_set_ne (Ne.symm r0.1)]; exact r3
                  simp +contextual -implicitDefEqProofs (maxSteps := 10000000) only [sxb, plainD, stays, ↓selV_wt, ↓selV_wf, ↓impB_wt, ↓impB_wf, ↓selV_nor, ↓impB_nor, ↓selV_nt, ↓selV_nf, ↓impB_nt, ↓impB_nf, ↓selV_true, ↓selV_false, ↓selV_and, ↓impB_true, ↓impB_false, ↓impB_and, ↓prim_pick, ↓selV_nn, ↓impB_nn, doOp, get, ins, del, dels, Nat.reduceLT, Nat.reduceEqDiff, ↓reduceIte, reduceCtorEq, ne_eq, implies_true, prim, YLD, mkA, V.cells, Nat.reduceAdd, Nat.reduceSub, Nat.reduceMul, Nat.reduceLeDiff, loadA, cellsAt, nAg, packA, List.drop, List.take, List.head?, binA, unA, eqCells, eqCell, negB, fillA, storeA, Ob.with, indexedI, V.oneCell, intOf?, resA, resA1, packR, sealDepth, Int.reduceLT, Int.reduceLE, Int.reduceToNat, Int.reduceNeg, Int.reduceAdd, Int.reduceSub, Int.reduceMul, cond_true, cond_false, Int.reduceBNe, Int.reduceBEq, eq_self, deads, List.replicate, argsF, lx, c1, c61, w5, lenA_view, iaddrS_v, j0, j1, gr, gs, r2, ro, r4, r5, l64, o64, t64, fl, lc, ef, fs, w4, hk1, hlt, gl]
                  exact ⟨hl, fun p h1 h2 => by rw [gn _ _ p h1 h2, hkp p h1 h2], hres⟩
            · have e8 : k = L.length := by omega
              subst e8
              have c1 : decide ((L.length : Int) < (L.length : Int)) = false := decide_eq_false (by omega)
              rw [List.take_length] at hD
              simp +contextual -implicitDefEqProofs (maxSteps := 10000000) only [sxb, plainD, stays, ↓selV_wt, ↓selV_wf, ↓impB_wt, ↓impB_wf, ↓selV_nor, ↓impB_nor, ↓selV_nt, ↓selV_nf, ↓impB_nt, ↓impB_nf, ↓selV_true, ↓selV_false, ↓selV_and, ↓impB_true, ↓impB_false, ↓impB_and, ↓prim_pick, ↓selV_nn, ↓impB_nn, doOp, get, ins, del, dels, Nat.reduceLT, Nat.reduceEqDiff, ↓reduceIte, reduceCtorEq, ne_eq, implies_true, prim, YLD, mkA, V.cells, Nat.reduceAdd, Nat.reduceSub, Nat.reduceMul, Nat.reduceLeDiff, loadA, cellsAt, nAg, packA, List.drop, List.take, List.head?, binA, unA, eqCells, eqCell, negB, fillA, storeA, Ob.with, indexedI, V.oneCell, intOf?, resA, resA1, packR, sealDepth, Int.reduceLT, Int.reduceLE, Int.reduceToNat, Int.reduceNeg, Int.reduceAdd, Int.reduceSub, Int.reduceMul, cond_true, cond_false, Int.reduceBNe, Int.reduceBEq, eq_self, deads, List.replicate, argsF, lx, c1]
              exact ⟨hl, hkp, hD⟩
  · have hne : (D.rwho i e != 0) = true := by simpa using h0
    have hw : D.wrR i e f L = 2 := rwho_bad h0
    rw [hw, bad 2 (by decide) hw]
    refine call_keep at42 rfl rfl (by decide) (sx_wp ?_)
    simp +contextual -implicitDefEqProofs (maxSteps := 10000000) only [sxb, plainD, stays, ↓selV_wt, ↓selV_wf, ↓impB_wt, ↓impB_wf, ↓selV_nor, ↓impB_nor, ↓selV_nt, ↓selV_nf, ↓impB_nt, ↓impB_nf, ↓selV_true, ↓selV_false, ↓selV_and, ↓impB_true, ↓impB_false, ↓impB_and, ↓prim_pick, ↓selV_nn, ↓impB_nn, doOp, get, ins, del, dels, Nat.reduceLT, Nat.reduceEqDiff, ↓reduceIte, reduceCtorEq, ne_eq, implies_true, prim, YLD, mkA, V.cells, Nat.reduceAdd, Nat.reduceSub, Nat.reduceMul, Nat.reduceLeDiff, loadA, cellsAt, nAg, packA, List.drop, List.take, List.head?, binA, unA, eqCells, eqCell, negB, fillA, storeA, Ob.with, indexedI, V.oneCell, intOf?, resA, resA1, packR, sealDepth, Int.reduceLT, Int.reduceLE, Int.reduceToNat, Int.reduceNeg, Int.reduceAdd, Int.reduceSub, Int.reduceMul, cond_true, cond_false, Int.reduceBNe, Int.reduceBEq, eq_self, deads, List.replicate, argsF, am42, isNil, c60, hne, List.append_nil]
    exact h
end Go.Am.T


set_option linter.unusedVariables false
set_option linter.unusedSimpArgs false
set_option maxRecDepth 10000
namespace Go.Am.T
attribute [local congr] selV_congr impB_congr
theorem full_spec {N n : Nat} (hN : 100 ≤ N) (hn : 3 ≤ n) (c : Int) (hc : c = 1 ∨ c = 5 ∨ c = 7 ∨ c = 9) (h : Heap) : callA am N n 23 [.int .u8 c] h = some (secV (List.replicate 64 c), h) := by
  rcases hc with rfl | rfl | rfl | rfl
  · exact closed_quick pm23 (show callB am 100 3 23 [.int .u8 1] [] = some (secV (List.replicate 64 1), []) by kernel_rfl) hN hn h
  · exact closed_quick pm23 (show callB am 100 3 23 [.int .u8 5] [] = some (secV (List.replicate 64 5), []) by kernel_rfl) hN hn h
  · exact closed_quick pm23 (show callB am 100 3 23 [.int .u8 7] [] = some (secV (List.replicate 64 7), []) by kernel_rfl) hN hn h
  · exact closed_quick pm23 (show callB am 100 3 23 [.int .u8 9] [] = some (secV (List.replicate 64 9), []) by kernel_rfl) hN hn h
theorem clone_spec {N n : Nat} (hn : 1 ≤ n) {H : Heap} {o v len : Nat} {cap : Option Nat} {cs : List V} (ho : H[o]? = some ⟨v, .arr cs⟩) (hl : cs.length = len * 64) (h1 : 1 ≤ len) (h2 : len ≤ 4096) (hone : cs.all V.oneCell = true) :
    callA am N n 51 [.view o v 0 len 64 cap] H = some (.view H.length 1 0 len 64 none, H ++ [⟨1, .arr cs⟩]) := by
  obtain ⟨n, rfl⟩ : ∃ m, n = m + 1 := ⟨n - 1, by omega⟩
  have h0 : len ≠ 0 := by omega
  have hb : len * 64 ≤ maxBytes := by unfold maxBytes; omega
  have hK : (H ++ [⟨0, .dead⟩] : Heap)[o]? = some ⟨v, .arr cs⟩ := by rw [List.getElem?_append_left (lt_of_get ho)]; exact ho
  have hf : firstA (fun i => (H ++ [⟨0, .dead⟩] : Heap)[i]?) 64 len (.view o v 0 len 64 cap) = some cs := by
    simp only [firstA, ↓reduceIte, Nat.le_refl, loadA, cellsAt, hK, Nat.zero_add, hl, List.drop_zero]
    rw [List.take_of_length_le (by omega)]
  have ha : appendA (fun i => (H ++ [⟨0, .dead⟩] : Heap)[i]?) H.length 64 64 (.sl [] 64 (some 0)) (.view o v 0 len 64 cap) = some (.set H.length ⟨1, .arr cs⟩ (.view H.length 1 0 len 64 none)) := by
    have hg : (H ++ [⟨0, .dead⟩] : Heap)[H.length]? = some ⟨0, .dead⟩ := by rw [app_get0]; rfl
    have h0' : 0 < len := by omega
    simp only [appendA, lenA_view, hf, hone, ↓reduceIte, h0, List.length_nil, Nat.zero_add, h0', hb, List.flatMap_nil, List.nil_append, mkA, hg]
  refine call_auto_eq at51 rfl rfl (by decide) rfl (sx_wp ?_)
  simp +contextual -implicitDefEqProofs (maxSteps := 10000000) only [sxb, plainD, stays, ↓selV_wt, ↓selV_wf, ↓impB_wt, ↓impB_wf, ↓selV_nor, ↓impB_nor, ↓selV_nt, ↓selV_nf, ↓impB_nt, ↓impB_nf, ↓selV_true, ↓selV_false, ↓selV_and, ↓impB_true, ↓impB_false, ↓impB_and, ↓prim_pick, ↓selV_nn, ↓impB_nn, doOp, get, ins, del, dels, Nat.reduceLT, Nat.reduceEqDiff, ↓reduceIte, reduceCtorEq, ne_eq, implies_true, prim, YLD, mkA, V.cells, Nat.reduceAdd, Nat.reduceSub, Nat.reduceMul, Nat.reduceLeDiff, loadA, cellsAt, nAg, packA, List.drop, List.take, List.head?, binA, unA, eqCells, eqCell, negB, fillA, storeA, Ob.with, indexedI, V.oneCell, intOf?, resA, resA1, packR, sealDepth, Int.reduceLT, Int.reduceLE, Int.reduceToNat, Int.reduceNeg, Int.reduceAdd, Int.reduceSub, Int.reduceMul, cond_true, cond_false, Int.reduceBNe, Int.reduceBEq, eq_self, deads, List.replicate, argsF, am51, isNil, List.range, List.range.loop, ha, app_get0, app_get, app_set0, app_set]
set_option maxHeartbeats 1000000 in
theorem copy_spec {N n : Nat} (hn : 2 ≤ n) {H : Heap} {d so : Nat} {D : Dv} (h : DAt H d so D) :
    ∃ L, callA am N n 21 [.ptr d 1 0] H = some (.ptr H.length 1 0, H ++ L) ∧ L.length = 2 ∧ DAt (H ++ L) H.length (H.length + 1) D := by
  obtain ⟨n, rfl⟩ : ∃ m, n = m + 1 := ⟨n - 1, by omega⟩
  obtain ⟨ver, cap, hd, ho⟩ := h.ob
  have ok := h.ok
  have c48 := @there_spec N n (by omega) (H ++ [⟨0, .dead⟩]) _ _ (h.app _).looks
  have fl : (D.S.flatten.map (V.int .u8)).length = D.S.length * 64 := by rw [List.length_map, flat_len ok.sec]
  have q1 := fun X => @dv_len D X ok.e8
  have q0 : ∀ X, List.take 1 (D.cs X) = [X] := fun X => rfl
  have t14 : ∀ X, List.take 14 (D.cs X) = D.cs X := fun X => List.take_of_length_le (by rw [q1]; exact Nat.le_refl _)
  have hdA : ∀ l : Heap, (H ++ l)[d]? = _ := fun l => (List.getElem?_append_left (lt_of_get hd)).trans hd
  have hoA : ∀ l : Heap, (H ++ l)[so]? = _ := fun l => (List.getElem?_append_left (lt_of_get ho)).trans ho
  have hone := ints_one .u8 D.S.flatten
  have c51 := @clone_spec N n (by omega) (H ++ [⟨1, .var (D.cs (.view so ver 0 D.S.length 64 cap))⟩]) so ver D.S.length cap _ (hoA _) fl ok.s1 ok.s4 hone
  have hal : (D.cs (.view so ver 0 D.S.length 64 cap)).all V.oneCell = true := by
    unfold Dv.cs
    rw [List.all_cons, List.all_append, ints_one]
    rfl
  have lH : ∀ y : Ob, (H ++ [y]).length = H.length + 1 := fun y => by simp
  rw [lH, List.append_assoc] at c51
  have ss : setRange (D.cs (.view so ver 0 D.S.length 64 cap)) 0 [.view (H.length + 1) 1 0 D.S.length 64 none] = D.cs (.view (H.length + 1) 1 0 D.S.length 64 none) := rfl
  refine ⟨[⟨1, .var (D.cs (.view (H.length + 1) 1 0 D.S.length 64 none))⟩, ⟨1, .arr (D.S.flatten.map (V.int .u8))⟩], ?_, rfl, ?_⟩
  · have sr := fun (z : List V) (hz : z.length = 14) => @sr_all z (D.cs (.view so ver 0 D.S.length 64 cap)) (by rw [q1, hz])
    generalize D.S.flatten.map (V.int .u8) = F at *
    refine call_keep_eq at21 rfl rfl (by decide) (sx_wp ?_)
    simp +contextual -implicitDefEqProofs (maxSteps := 10000000) only [sxb, plainD, stays, ↓selV_wt, ↓selV_wf, ↓impB_wt, ↓impB_wf, ↓selV_nor, ↓impB_nor, ↓selV_nt, ↓selV_nf, ↓impB_nt, ↓impB_nf, ↓selV_true, ↓selV_false, ↓selV_and, ↓impB_true, ↓impB_false, ↓impB_and, ↓prim_pick, ↓selV_nn, ↓impB_nn, doOp, get, ins, del, dels, Nat.reduceLT, Nat.reduceEqDiff, ↓reduceIte, reduceCtorEq, ne_eq, implies_true, prim, YLD, mkA, V.cells, Nat.reduceAdd, Nat.reduceSub, Nat.reduceMul, Nat.reduceLeDiff, loadA, cellsAt, nAg, packA, List.drop, List.take, List.head?, binA, unA, eqCells, eqCell, negB, fillA, storeA, Ob.with, indexedI, V.oneCell, intOf?, resA, resA1, packR, sealDepth, Int.reduceLT, Int.reduceLE, Int.reduceToNat, Int.reduceNeg, Int.reduceAdd, Int.reduceSub, Int.reduceMul, cond_true, cond_false, Int.reduceBNe, Int.reduceBEq, eq_self, deads, List.replicate, argsF, am21, isNil, c48, hdA, q1, q0, t14, hal, sr, mkA, app_get0, app_get, app_set0, app_set, c51, ss, List.cons_append, List.nil_append]
  · exact ⟨ok, ⟨1, none, by rw [app_get0]; rfl, by rw [app_get]; rfl⟩, by omega⟩
end Go.Am.T


set_option linter.unusedVariables false
set_option linter.unusedSimpArgs false
set_option maxRecDepth 10000
namespace Go.Am.T
attribute [local congr] selV_congr impB_congr
theorem sl_at {S : List (List Int)} {i : Nat} (hi : i < S.length) (cap : Option Nat) : iaddrSA 64 (.sl (S.map secV) 64 cap) (.int .i64 (i : Nat)) = some (.ret (.iptr (S[i].map (V.int .u8)) 0)) := by
  have h0 : (0 : Int) ≤ (i : Int) := by omega
  have h1 : (i : Int) < (S.length : Int) := by omega
  have q : (S.map secV)[i]? = some (secV S[i]) := by rw [List.getElem?_map, List.getElem?_eq_getElem hi]; rfl
  simp only [iaddrSA, ↓reduceIte, indexedI, List.length_map, h0, h1, Option.bind_some, Int.toNat_natCast, q, Option.map_some]
  rfl
set_option maxHeartbeats 1000000 in
theorem equal_spec {N n : Nat} (hN : 5000 ≤ N) (hn : 1 ≤ n) {A B : List (List Int)} (hA : ∀ s ∈ A, s.length = 64) (hB : ∀ s ∈ B, s.length = 64) (lA : A.length ≤ 4096) (lB : B.length ≤ 4096) (c c' : Option Nat) (H : Heap) :
    callA am N n 49 [.sl (A.map secV) 64 c, .sl (B.map secV) 64 c'] H = some (.bool (decide (A = B)), H) := by
  obtain ⟨n, rfl⟩ : ∃ m, n = m + 1 := ⟨n - 1, by omega⟩
  have f1 : V.shut (fun o => H[o]?) sealDepth (.sl (A.map secV) 64 c) = some (.sl (A.map secV) 64 c) := shut_plain (d := 63) (secs_free _)
  have f2 : V.shut (fun o => H[o]?) sealDepth (.sl (B.map secV) 64 c') = some (.sl (B.map secV) 64 c') := shut_plain (d := 63) (secs_free _)
  refine call_look at49 rfl rfl (by decide) (args' := [.sl (A.map secV) 64 c, .sl (B.map secV) 64 c']) (by rw [List.mapM_cons, f1, List.mapM_cons, f2]; rfl) (sx_wp ?_)
  have a1 := fun i (hi : i < A.length) => sl_at hi c
  have a2 := fun i (hi : i < B.length) => sl_at hi c'
  by_cases hlen : A.length = B.length
  · have d0 : ((A.length : Int) != (B.length : Int)) = false := by rw [hlen]; simp
    simp +contextual -implicitDefEqProofs (maxSteps := 10000000) only [sxb, plainD, stays, ↓selV_wt, ↓selV_wf, ↓impB_wt, ↓impB_wf, ↓selV_nor, ↓impB_nor, ↓selV_nt, ↓selV_nf, ↓impB_nt, ↓impB_nf, ↓selV_true, ↓selV_false, ↓selV_and, ↓impB_true, ↓impB_false, ↓impB_and, ↓prim_pick, ↓selV_nn, ↓impB_nn, doOp, get, ins, del, dels, Nat.reduceLT, Nat.reduceEqDiff, ↓reduceIte, reduceCtorEq, ne_eq, implies_true, prim, YLD, mkA, V.cells, Nat.reduceAdd, Nat.reduceSub, Nat.reduceMul, Nat.reduceLeDiff, loadA, cellsAt, nAg, packA, List.drop, List.take, List.head?, binA, unA, eqCells, eqCell, negB, fillA, storeA, Ob.with, indexedI, V.oneCell, intOf?, resA, resA1, packR, sealDepth, Int.reduceLT, Int.reduceLE, Int.reduceToNat, Int.reduceNeg, Int.reduceAdd, Int.reduceSub, Int.reduceMul, cond_true, cond_false, Int.reduceBNe, Int.reduceBEq, eq_self, deads, List.replicate, argsF, am49, lenA_sl, List.length_map, d0]
    refine sx_loop (fun i t k => i ≤ A.length ∧ A.take i = B.take i ∧ k = [] ∧ t = fr 26 [(0, .sl (A.map secV) 64 c), (1, .sl (B.map secV) 64 c'), (12, .int .i64 A.length), (13, .int .i64 i)]) A.length (by show A.length < N; omega) ⟨Nat.zero_le _, rfl, rfl, rfl⟩ ?_
    rintro i t k hi ⟨hi', hpre, rfl, rfl⟩
    by_cases hlt : i < A.length
    · have g1 : decide ((i : Int) < (A.length : Int)) = true := decide_eq_true (by omega)
      have w4 : IntKind.i64.wrap ((i : Int) + 1) = ((i + 1 : Nat) : Int) := (wrap64 (by omega) (by omega)).trans (by omega)
      have hi1 : i + 1 ≤ A.length := by omega
      have hltB : i < B.length := by omega
      have b1 := a1 i hlt
      have b2 := a2 i hltB
      have h1 := hA A[i] (List.getElem_mem hlt)
      have h2 := hB B[i] (List.getElem_mem hltB)
      have m1 : (A[i].map (V.int .u8)).length = 64 := by simp [h1]
      have m2 : (B[i].map (V.int .u8)).length = 64 := by simp [h2]
      have t1 : List.take 64 (A[i].map (V.int .u8)) = A[i].map (V.int .u8) := List.take_of_length_le (by omega)
      have t2 : List.take 64 (B[i].map (V.int .u8)) = B[i].map (V.int .u8) := List.take_of_length_le (by omega)
      have eq := @eqCells_ints .u8 64 _ _ h1 h2
      simp only [List.replicate] at eq
      by_cases he : A[i] = B[i]
      · rw [decide_eq_true he] at eq
        have hpre' : A.take (i + 1) = B.take (i + 1) := by
          rw [List.take_add_one, List.take_add_one, hpre, List.getElem?_eq_getElem hlt, List.getElem?_eq_getElem hltB, he]
        simp +contextual -implicitDefEqProofs (maxSteps := 10000000) only [sxb, plainD, stays, ↓selV_wt, ↓selV_wf, ↓impB_wt, ↓impB_wf, ↓selV_nor, ↓impB_nor, ↓selV_nt, ↓selV_nf, ↓impB_nt, ↓impB_nf, ↓selV_true, ↓selV_false, ↓selV_and, ↓impB_true, ↓impB_false, ↓impB_and, ↓prim_pick, ↓selV_nn, ↓impB_nn, doOp, get, ins, del, dels, Nat.reduceLT, Nat.reduceEqDiff, ↓reduceIte, reduceCtorEq, ne_eq, implies_true, prim, YLD, mkA, V.cells, Nat.reduceAdd, Nat.reduceSub, Nat.reduceMul, Nat.reduceLeDiff, loadA, cellsAt, nAg, packA, List.drop, List.take, List.head?, binA, unA, eqCells, eqCell, negB, fillA, storeA, Ob.with, indexedI, V.oneCell, intOf?, resA, resA1, packR, sealDepth, Int.reduceLT, Int.reduceLE, Int.reduceToNat, Int.reduceNeg, Int.reduceAdd, Int.reduceSub, Int.reduceMul, cond_true, cond_false, Int.reduceBNe, Int.reduceBEq, eq_self, deads, List.replicate, argsF, g1, b1, b2, m1, m2, t1, t2, eq, w4, hpre', hi1, hlt]
      · rw [decide_eq_false he] at eq
        have d2 : decide (A = B) = false := decide_eq_false (fun e => he (by subst e; rfl))
        simp +contextual -implicitDefEqProofs (maxSteps := 10000000) only [sxb, plainD, stays, ↓selV_wt, ↓selV_wf, ↓impB_wt, ↓impB_wf, ↓selV_nor, ↓impB_nor, ↓selV_nt, ↓selV_nf, ↓impB_nt, ↓impB_nf, ↓selV_true, ↓selV_false, ↓selV_and, ↓impB_true, ↓impB_false, ↓impB_and, ↓prim_pick, ↓selV_nn, ↓impB_nn, doOp, get, ins, del, dels, Nat.reduceLT, Nat.reduceEqDiff, ↓reduceIte, reduceCtorEq, ne_eq, implies_true, prim, YLD, mkA, V.cells, Nat.reduceAdd, Nat.reduceSub, Nat.reduceMul, Nat.reduceLeDiff, loadA, cellsAt, nAg, packA, List.drop, List.take, List.head?, binA, unA, eqCells, eqCell, negB, fillA, storeA, Ob.with, indexedI, V.oneCell, intOf?, resA, resA1, packR, sealDepth, Int.reduceLT, Int.reduceLE, Int.reduceToNat, Int.reduceNeg, Int.reduceAdd, Int.reduceSub, Int.reduceMul, cond_true, cond_false, Int.reduceBNe, Int.reduceBEq, eq_self, deads, List.replicate, argsF, g1, b1, b2, m1, m2, t1, t2, eq, d2, plain_bool]
    · have e : i = A.length := by omega
      subst e
      have g1 : decide ((A.length : Int) < (A.length : Int)) = false := decide_eq_false (by omega)
      have d2 : decide (A = B) = true := decide_eq_true (by
        rw [List.take_of_length_le (Nat.le_refl _), List.take_of_length_le (by omega)] at hpre
        exact hpre)
      simp +contextual -implicitDefEqProofs (maxSteps := 10000000) only [sxb, plainD, stays, ↓selV_wt, ↓selV_wf, ↓impB_wt, ↓impB_wf, ↓selV_nor, ↓impB_nor, ↓selV_nt, ↓selV_nf, ↓impB_nt, ↓impB_nf, ↓selV_true, ↓selV_false, ↓selV_and, ↓impB_true, ↓impB_false, ↓impB_and, ↓prim_pick, ↓selV_nn, ↓impB_nn, doOp, get, ins, del, dels, Nat.reduceLT, Nat.reduceEqDiff, ↓reduceIte, reduceCtorEq, ne_eq, implies_true, prim, YLD, mkA, V.cells, Nat.reduceAdd, Nat.reduceSub, Nat.reduceMul, Nat.reduceLeDiff, loadA, cellsAt, nAg, packA, List.drop, List.take, List.head?, binA, unA, eqCells, eqCell, negB, fillA, storeA, Ob.with, indexedI, V.oneCell, intOf?, resA, resA1, packR, sealDepth, Int.reduceLT, Int.reduceLE, Int.reduceToNat, Int.reduceNeg, Int.reduceAdd, Int.reduceSub, Int.reduceMul, cond_true, cond_false, Int.reduceBNe, Int.reduceBEq, eq_self, deads, List.replicate, argsF, g1, d2, plain_bool]
  · have d0 : ((A.length : Int) != (B.length : Int)) = true := by simp; omega
    have d2 : decide (A = B) = false := decide_eq_false (fun e => hlen (by rw [e]))
    simp +contextual -implicitDefEqProofs (maxSteps := 10000000) only [sxb, plainD, stays, ↓selV_wt, ↓selV_wf, ↓impB_wt, ↓impB_wf, ↓selV_nor, ↓impB_nor, ↓selV_nt, ↓selV_nf, ↓impB_nt, ↓impB_nf, ↓selV_true, ↓selV_false, ↓selV_and, ↓impB_true, ↓impB_false, ↓impB_and, ↓prim_pick, ↓selV_nn, ↓impB_nn, doOp, get, ins, del, dels, Nat.reduceLT, Nat.reduceEqDiff, ↓reduceIte, reduceCtorEq, ne_eq, implies_true, prim, YLD, mkA, V.cells, Nat.reduceAdd, Nat.reduceSub, Nat.reduceMul, Nat.reduceLeDiff, loadA, cellsAt, nAg, packA, List.drop, List.take, List.head?, binA, unA, eqCells, eqCell, negB, fillA, storeA, Ob.with, indexedI, V.oneCell, intOf?, resA, resA1, packR, sealDepth, Int.reduceLT, Int.reduceLE, Int.reduceToNat, Int.reduceNeg, Int.reduceAdd, Int.reduceSub, Int.reduceMul, cond_true, cond_false, Int.reduceBNe, Int.reduceBEq, eq_self, deads, List.replicate, argsF, am49, lenA_sl, List.length_map, d0, d2, plain_bool]
theorem dv_e8 {D : Dv} {X : V} (h : D.E.length = 8) : List.take 8 (List.drop 1 (D.cs X)) = D.E.map (V.int .i64) := by
  show List.take 8 (D.E.map (V.int .i64) ++ _) = _
  rw [List.take_append_of_le_length (by simp [h]), List.take_of_length_le (by simp [h])]
def sameB (A B : Dv) : Bool := (decide (A.n = B.n) && decide (A.E = B.E)) && decide (A.S = B.S)
set_option maxHeartbeats 1000000 in
theorem same_spec {N n : Nat} (hN : 5000 ≤ N) (hn : 2 ≤ n) {H : Heap} {x y : V} {A B : Dv} (hx : Looks H x A) (hy : Looks H y B) : callA am N n 17 [x, y] H = some (.bool (sameB A B), H) := by
  obtain ⟨n, rfl⟩ : ∃ m, n = m + 1 := ⟨n - 1, by omega⟩
  obtain ⟨okA, ca, ea⟩ := hx
  obtain ⟨okB, cb, eb⟩ := hy
  have q1 := fun X => @dv_len A X okA.e8
  have q2 := fun X => @dv_len B X okB.e8
  have c1 := fun H => @there_spec N n (by omega) H _ _ (looks_i (H := H) okA ca)
  have c2 := fun H => @there_spec N n (by omega) H _ _ (looks_i (H := H) okB cb)
  have c49 := fun H => @equal_spec N n hN (by omega) A.S B.S okA.sec okB.sec okA.s4 okB.s4 ca cb H
  have n1 := fun X => @dv_n A X okA.e8
  have n2 := fun X => @dv_n B X okB.e8
  have e1 := fun X => @dv_e8 A X okA.e8
  have e2 := fun X => @dv_e8 B X okB.e8
  have z1 : ∀ X, List.take 1 (A.cs X) = [X] := fun X => rfl
  have z2 : ∀ X, List.take 1 (B.cs X) = [X] := fun X => rfl
  have eq := @eqCells_ints .i64 8 _ _ okA.e8 okB.e8
  simp only [List.replicate] at eq
  have m1 : (A.E.map (V.int .i64)).length = 8 := by simp [okA.e8]
  have m2 : (B.E.map (V.int .i64)).length = 8 := by simp [okB.e8]
  refine call_look at17 rfl rfl (by decide) (args' := [A.seen ca, B.seen cb]) (by rw [List.mapM_cons, ea, List.mapM_cons, eb]; rfl) (sx_wp ?_)
  unfold Dv.seen at *
  have en : ((A.n : Int) == (B.n : Int)) = decide (A.n = B.n) := by
    by_cases e : A.n = B.n
    · rw [decide_eq_true e, e]; simp
    · rw [decide_eq_false e]; simp; omega
  cases h1 : decide (A.n = B.n) with
  | false =>
    have hs : sameB A B = false := by simp only [sameB, h1, Bool.false_and]
    simp +contextual -implicitDefEqProofs (maxSteps := 10000000) only [sxb, plainD, stays, ↓selV_wt, ↓selV_wf, ↓impB_wt, ↓impB_wf, ↓selV_nor, ↓impB_nor, ↓selV_nt, ↓selV_nf, ↓impB_nt, ↓impB_nf, ↓selV_true, ↓selV_false, ↓selV_and, ↓impB_true, ↓impB_false, ↓impB_and, ↓prim_pick, ↓selV_nn, ↓impB_nn, doOp, get, ins, del, dels, Nat.reduceLT, Nat.reduceEqDiff, ↓reduceIte, reduceCtorEq, ne_eq, implies_true, prim, YLD, mkA, V.cells, Nat.reduceAdd, Nat.reduceSub, Nat.reduceMul, Nat.reduceLeDiff, loadA, cellsAt, nAg, packA, List.drop, List.take, List.head?, binA, unA, eqCells, eqCell, negB, fillA, storeA, Ob.with, indexedI, V.oneCell, intOf?, resA, resA1, packR, sealDepth, Int.reduceLT, Int.reduceLE, Int.reduceToNat, Int.reduceNeg, Int.reduceAdd, Int.reduceSub, Int.reduceMul, cond_true, cond_false, Int.reduceBNe, Int.reduceBEq, eq_self, deads, List.replicate, argsF, am17, isNil, c1, c2, pm48, pm49, q1, q2, n1, n2, en, h1, hs, plain_bool]
  | true =>
    cases h2 : decide (A.E = B.E) with
    | false =>
      rw [h2] at eq
      have hs : sameB A B = false := by simp only [sameB, h1, h2, Bool.false_and, Bool.and_false]
      simp +contextual -implicitDefEqProofs (maxSteps := 10000000) only [sxb, plainD, stays, ↓selV_wt, ↓selV_wf, ↓impB_wt, ↓impB_wf, ↓selV_nor, ↓impB_nor, ↓selV_nt, ↓selV_nf, ↓impB_nt, ↓impB_nf, ↓selV_true, ↓selV_false, ↓selV_and, ↓impB_true, ↓impB_false, ↓impB_and, ↓prim_pick, ↓selV_nn, ↓impB_nn, doOp, get, ins, del, dels, Nat.reduceLT, Nat.reduceEqDiff, ↓reduceIte, reduceCtorEq, ne_eq, implies_true, prim, YLD, mkA, V.cells, Nat.reduceAdd, Nat.reduceSub, Nat.reduceMul, Nat.reduceLeDiff, loadA, cellsAt, nAg, packA, List.drop, List.take, List.head?, binA, unA, eqCells, eqCell, negB, fillA, storeA, Ob.with, indexedI, V.oneCell, intOf?, resA, resA1, packR, sealDepth, Int.reduceLT, Int.reduceLE, Int.reduceToNat, Int.reduceNeg, Int.reduceAdd, Int.reduceSub, Int.reduceMul, cond_true, cond_false, Int.reduceBNe, Int.reduceBEq, eq_self, deads, List.replicate, argsF, am17, isNil, c1, c2, pm48, pm49, q1, q2, n1, n2, en, h1, e1, e2, m1, m2, eq, hs, plain_bool]
    | true =>
      rw [h2] at eq
      have hs : sameB A B = decide (A.S = B.S) := by simp only [sameB, h1, h2, Bool.true_and]
      simp +contextual -implicitDefEqProofs (maxSteps := 10000000) only [sxb, plainD, stays, ↓selV_wt, ↓selV_wf, ↓impB_wt, ↓impB_wf, ↓selV_nor, ↓impB_nor, ↓selV_nt, ↓selV_nf, ↓impB_nt, ↓impB_nf, ↓selV_true, ↓selV_false, ↓selV_and, ↓impB_true, ↓impB_false, ↓impB_and, ↓prim_pick, ↓selV_nn, ↓impB_nn, doOp, get, ins, del, dels, Nat.reduceLT, Nat.reduceEqDiff, ↓reduceIte, reduceCtorEq, ne_eq, implies_true, prim, YLD, mkA, V.cells, Nat.reduceAdd, Nat.reduceSub, Nat.reduceMul, Nat.reduceLeDiff, loadA, cellsAt, nAg, packA, List.drop, List.take, List.head?, binA, unA, eqCells, eqCell, negB, fillA, storeA, Ob.with, indexedI, V.oneCell, intOf?, resA, resA1, packR, sealDepth, Int.reduceLT, Int.reduceLE, Int.reduceToNat, Int.reduceNeg, Int.reduceAdd, Int.reduceSub, Int.reduceMul, cond_true, cond_false, Int.reduceBNe, Int.reduceBEq, eq_self, deads, List.replicate, argsF, am17, isNil, c1, c2, pm48, pm49, q1, q2, n1, n2, en, h1, e1, e2, m1, m2, eq, z1, z2, c49, hs, plain_bool]
end Go.Am.T


set_option linter.unusedVariables false
set_option linter.unusedSimpArgs false
set_option maxRecDepth 10000
namespace Go.Am.T
attribute [local congr] selV_congr impB_congr
attribute [local irreducible] sx wp
end Go.Am.T


set_option linter.unusedVariables false
set_option linter.unusedSimpArgs false
set_option maxRecDepth 10000
namespace Go.Am.T
attribute [local congr] selV_congr impB_congr
def SRo (L : List (List Int)) (b : V) : Prop := ((L = [] ∧ b = .nils) ∨ ∃ c, b = .sl (L.map secV) 64 c) ∧ ∀ v ∈ L, v.length = 64
theorem SRo.rd {L : List (List Int)} {b : V} (h : SRo L b) (H : Heap) (X : List Nat) : RdS H X b L := by
  obtain ⟨h, hs⟩ := h
  rcases h with ⟨rfl, rfl⟩ | ⟨c, rfl⟩
  · exact ⟨rfl, fun _ => V.noConfusion, ⟨rfl, V.noConfusion⟩, hs, fun i hi => by simp at hi⟩
  · exact ⟨by simp [lenA], fun _ => V.noConfusion, ⟨rfl, V.noConfusion⟩, hs, fun i hi => .inl (sl_at hi c)⟩
structure Stp where
  k : Int
  n : Int
  a : Int
  e : Int
  b : Int
  L : List (List Int)
  lv : V
  was : List Int
  new : List Int
structure Stp.Ok (s : Stp) : Prop where
  l : SRo s.L s.lv
  w : s.was.length = 64
  n : s.new.length = 64
  a : s.a ≤ 9223372036854775807
def Stp.cs (s : Stp) : List V := .int .i64 s.k :: .int .i64 s.n :: .int .i64 s.a :: .int .i64 s.e :: .int .i64 s.b :: s.lv :: (s.was.map (V.int .u8) ++ s.new.map (V.int .u8))
section
variable {s : Stp} (h : s.Ok)
include h
theorem stp_len : s.cs.length = 134 := by simp [Stp.cs, h.w, h.n]
theorem stp_was : List.take 64 (List.drop 6 s.cs) = s.was.map (V.int .u8) := by
  show List.take 64 (s.was.map (V.int .u8) ++ s.new.map (V.int .u8)) = _
  rw [List.take_append_of_le_length (by simp [h.w]), List.take_of_length_le (by simp [h.w])]
theorem stp_new : List.take 64 (List.drop 70 s.cs) = s.new.map (V.int .u8) := by
  have e : List.drop 70 s.cs = List.drop 64 (s.was.map (V.int .u8) ++ s.new.map (V.int .u8)) := rfl
  rw [e, List.drop_left' (by simp [h.w]), List.take_of_length_le (by simp [h.n])]
theorem stp_lv : s.lv.cells = [s.lv] ∧ s.lv.oneCell = true := by
  rcases h.l.1 with ⟨-, h⟩ | ⟨c, h⟩ <;> rw [h] <;> exact ⟨rfl, rfl⟩
theorem stp_one : s.cs.all V.oneCell = true := by
  unfold Stp.cs
  simp only [List.all_cons, List.all_append, ints_one, (stp_lv h).2]
  rfl
end
structure Two (H : Heap) (d so r s e : Nat) (D : Dv) : Prop where
  da : DAt H d so D
  ra : RAt H r s e D
  nrd : r ≠ d
  nro : r ≠ so
  nsd : s ≠ d
  nso : s ≠ so
  ned : e ≠ d
  neo : e ≠ so
theorem Two.app {H : Heap} {d so r s e : Nat} {D : Dv} (h : Two H d so r s e D) (l : Heap) : Two (H ++ l) d so r s e D := ⟨h.da.app l, h.ra.app l, h.nrd, h.nro, h.nsd, h.nso, h.ned, h.neo⟩
def Mono (D D' : Dv) : Prop := D'.n = D.n ∧ D'.S.length = D.S.length ∧ ∀ i, D.ep i ≤ D'.ep i
theorem Mono.refl (D : Dv) : Mono D D := ⟨rfl, rfl, fun _ => Int.le_refl _⟩
theorem Mono.trans {A B C : Dv} (h : Mono A B) (g : Mono B C) : Mono A C := ⟨g.1.trans h.1, g.2.1.trans h.2.1, fun i => Int.le_trans (h.2.2 i) (g.2.2 i)⟩
theorem mono_doS (D : Dv) (i : Nat) (v : List Int) : Mono D (D.doS i v) := by
  unfold Dv.doS
  cases D.out
  · exact ⟨rfl, List.length_set, fun _ => Int.le_refl _⟩
  · exact ⟨rfl, rfl, fun _ => Int.le_refl _⟩
theorem mono_puts : ∀ (L : List (List Int)) (D : Dv) (f : Nat), Mono D (D.puts f L)
  | [], D, f => Mono.refl D
  | v :: L, D, f => (mono_doS D f v).trans (mono_puts L _ _)
theorem mono_wr (D : Dv) (i e f : Int) (L : List (List Int)) : Mono D (D.wr i e f L) := by
  unfold Dv.wr
  cases D.wrR i e f L == 0
  · exact Mono.refl D
  · exact mono_puts L D _
theorem mono_swap (D : Dv) (i e s : Int) (w n : List Int) : Mono D (D.swap i e s w n) := by
  unfold Dv.swap
  cases (D.who i e (D.isSec s) == 0) && decide (D.at s = w)
  · exact Mono.refl D
  · exact mono_doS D _ _
theorem mono_doE {D : Dv} {i : Nat} {v : Int} (hv : D.E.getD i 0 ≤ v) : Mono D (D.doE i v) := by
  unfold Dv.doE
  cases D.out
  · refine ⟨rfl, rfl, fun j => ?_⟩
    show D.E.getD j.toNat 0 ≤ (D.E.set i v).getD j.toNat 0
    by_cases hj : j.toNat = i
    · subst hj
      rw [List.getD_eq_getElem?_getD, List.getD_eq_getElem?_getD, List.getElem?_set]
      rw [List.getD_eq_getElem?_getD] at hv
      by_cases hl : j.toNat < D.E.length
      · simp [hl] at hv ⊢; exact hv
      · simp [hl]
    · rw [List.getD_eq_getElem?_getD, List.getD_eq_getElem?_getD, List.getElem?_set_ne (Ne.symm hj)]
      exact Int.le_refl _
  · exact ⟨rfl, rfl, fun _ => Int.le_refl _⟩
theorem mono_up (D : Dv) (i : Int) : Mono D (D.up i) := by
  unfold Dv.up
  cases D.isNode i && !(D.ep i == 2147483647)
  · exact Mono.refl D
  · exact mono_doE (by show D.ep i ≤ D.ep i + 1; omega)
theorem mono_fence (D : Dv) (i e w a : Int) : Mono D (D.fence i e w a) := by
  unfold Dv.fence
  cases h : (D.who i e (D.may w a) == 0) && decide (D.ep w ≤ a)
  · exact Mono.refl D
  · simp only [Bool.and_eq_true, decide_eq_true_eq] at h
    exact mono_doE (by show D.ep w ≤ a + 1; omega)
theorem mono_cut (D : Dv) (k : Int) : Mono D (bif (decide (k < 0) || D.cut) then D else D.cutAt k) := by
  cases (decide (k < 0) || D.cut)
  · exact ⟨rfl, rfl, fun _ => Int.le_refl _⟩
  · exact Mono.refl D
theorem mono_whole (D : Dv) : Mono D D.whole := ⟨rfl, rfl, fun _ => Int.le_refl _⟩
def Stepped (H H' : Heap) (d so r s e : Nat) (D : Dv) (v : V) : Prop :=
  ∃ d' so' r' s' e' D', v = .tup [.ptr d' 1 0, .ptr r' 1 0, .bool true] ∧ Two H' d' so' r' s' e' D' ∧ Mono D D' ∧ H.length ≤ H'.length ∧
    (∀ p, p < H.length → p ≠ d → p ≠ so → p ≠ r → p ≠ s → p ≠ e → H'[p]? = H[p]?) ∧ ∀ q ∈ [d', so', r', s', e'], q ∈ [d, so, r, s, e] ∨ H.length ≤ q
theorem Two.next {H l H1 H2 : Heap} {d so r s e : Nat} {D D' : Dv} (hT : Two H d so r s e D) (h1 : (H ++ l).length ≤ H1.length) (k1 : ∀ p, p < (H ++ l).length → p ≠ d → p ≠ so → H1[p]? = (H ++ l)[p]?) (d1 : DAt H1 d so D')
    (h2 : H1.length ≤ H2.length) (k2 : ∀ p, p < H1.length → p ≠ r → p ≠ s → p ≠ e → H2[p]? = H1[p]?) (r2 : RAt H2 r s e D') (hm : Mono D D') : Stepped H H2 d so r s e D (.tup [.ptr d 1 0, .ptr r 1 0, .bool true]) := by
  obtain ⟨m1, m2⟩ := d1.lt
  simp only [List.length_append] at h1 k1
  refine ⟨d, so, r, s, e, D', rfl, ⟨d1.keep fun p hp => ?_, r2, hT.nrd, hT.nro, hT.nsd, hT.nso, hT.ned, hT.neo⟩, hm, by omega, fun p hp a b c f g => ?_, fun q hq => .inl hq⟩
  · rcases hp with rfl | rfl
    · exact k2 _ m1 (Ne.symm hT.nrd) (Ne.symm hT.nsd) (Ne.symm hT.ned)
    · exact k2 _ m2 (Ne.symm hT.nro) (Ne.symm hT.nso) (Ne.symm hT.neo)
  · rw [k2 p (by omega) c f g, k1 p (by omega) a b, List.getElem?_append_left hp]
theorem Two.rkeep {H l H1 : Heap} {d so r s e : Nat} {D : Dv} (hT : Two H d so r s e D) (k1 : ∀ p, p < (H ++ l).length → p ≠ d → p ≠ so → H1[p]? = (H ++ l)[p]?) : RAt H1 r s e D := by
  have hR := hT.ra.app l
  obtain ⟨a, b, c⟩ := hR.lt
  exact hR.keep fun p hp => by
    rcases hp with rfl | rfl | rfl
    · exact k1 _ a hT.nrd hT.nro
    · exact k1 _ b hT.nsd hT.nso
    · exact k1 _ c hT.ned hT.neo
end Go.Am.T


set_option linter.unusedVariables false
set_option linter.unusedSimpArgs false
set_option maxRecDepth 10000
namespace Go.Am.T
attribute [local congr] selV_congr impB_congr
attribute [local irreducible] sx wp
theorem swapR_two (D : Dv) (i e s : Int) (w : List Int) : ∃ a b, D.swapR i e s w = [.bool a, .int .i64 b] := by
  unfold Dv.swapR
  cases D.who i e (D.isSec s) == 0
  · exact ⟨_, _, rfl⟩
  · cases decide (D.at s = w) <;> exact ⟨_, _, rfl⟩
theorem upR_two (D : Dv) (i : Int) : ∃ a b, D.upR i = [.int .i64 a, .int .i64 b] := by
  unfold Dv.upR
  cases D.isNode i
  · exact ⟨_, _, rfl⟩
  · cases D.ep i == 2147483647 <;> exact ⟨_, _, rfl⟩
section
variable {N n : Nat} {H : Heap} {d so r s e : Nat} {D : Dv} (hT : Two H d so r s e D) {st : Stp} (ok : st.Ok)
include hT ok
theorem do_swap (hn : 5 ≤ n) (hk : st.k = 2) : ∃ v H', callA am N n 16 [.ptr d 1 0, .ptr r 1 0, .agg st.cs] H = some (v, H') ∧ Stepped H H' d so r s e D v := by
  obtain ⟨n, rfl⟩ : ∃ m, n = m + 1 := ⟨n - 1, by omega⟩
  obtain ⟨K, hK⟩ : ∃ K : Heap, K = H ++ [⟨1, .var st.cs⟩, ⟨0, .dead⟩, ⟨0, .dead⟩] := ⟨_, rfl⟩
  have D1 : DAt K d so D := by rw [hK]; exact hT.da.app _
  obtain ⟨H1, c29, h1, k1, d1⟩ := @swap_spec N n (by omega) K d so D D1 st.n st.e st.a st.was st.new ok.w ok.n
  have R1 : RAt H1 r s e D := by rw [hK] at k1; exact hT.rkeep k1
  obtain ⟨H2, c43, h2, k2, r2⟩ := @rswap_spec N n (by omega) H1 r s e D R1 st.n st.e st.a st.was st.new ok.w ok.n
  obtain ⟨a, b, hR⟩ := swapR_two D st.n st.e st.a st.was
  rw [hR] at c29 c43
  have hb : K[H.length]? = some ⟨1, .var st.cs⟩ := by rw [hK, app_get0]; rfl
  have l1 := hT.da.lt
  have hb1 : H1[H.length]? = some ⟨1, .var st.cs⟩ := by rw [k1 _ (lt_of_get hb) (by omega) (by omega), hb]
  have c11 := fun x K => @num_spec N n (by omega) x K
  have hC := stp_len ok
  have cw := stp_was ok
  have cn := stp_new ok
  have co := stp_one ok
  have cc : (V.agg st.cs).cells = st.cs := rfl
  have c0 : List.take 1 st.cs = [.int .i64 st.k] := rfl
  have c1 : List.take 1 (List.drop 1 st.cs) = [.int .i64 st.n] := rfl
  have c2 : List.take 1 (List.drop 2 st.cs) = [.int .i64 st.a] := rfl
  have c3 : List.take 1 (List.drop 3 st.cs) = [.int .i64 st.e] := rfl
  have hlast := hT.next (l := [⟨1, .var st.cs⟩, ⟨0, .dead⟩, ⟨0, .dead⟩]) (by rw [← hK]; exact h1) (by rw [← hK]; exact k1) d1 h2 (fun p hp x y z => k2 p hp x y) r2 (mono_swap D _ _ _ _ _)
  refine ⟨_, H2, ?_, hlast⟩
  clear hlast d1 r2 R1 D1 k1 k2
  rw [hk] at c0
  refine call_keep_eq at16 rfl rfl (by decide) (sx_wp ?_)
  unfold secV at *
  generalize st.cs = C at *
  generalize st.was.map (V.int .u8) = w at *
  generalize st.new.map (V.int .u8) = nw at *
  simp +contextual -implicitDefEqProofs (maxSteps := 10000000) only [sxb, plainD, stays, ↓selV_wt, ↓selV_wf, ↓impB_wt, ↓impB_wf, ↓selV_nor, ↓impB_nor, ↓selV_nt, ↓selV_nf, ↓impB_nt, ↓impB_nf, ↓selV_true, ↓selV_false, ↓selV_and, ↓impB_true, ↓impB_false, ↓impB_and, ↓prim_pick, ↓selV_nn, ↓impB_nn, doOp, get, ins, del, dels, Nat.reduceLT, Nat.reduceEqDiff, ↓reduceIte, reduceCtorEq, ne_eq, implies_true, prim, YLD, mkA, V.cells, Nat.reduceAdd, Nat.reduceSub, Nat.reduceMul, Nat.reduceLeDiff, loadA, cellsAt, nAg, packA, List.drop, List.take, List.head?, binA, unA, eqCells, eqCell, negB, fillA, storeA, Ob.with, indexedI, V.oneCell, intOf?, resA, resA1, packR, sealDepth, Int.reduceLT, Int.reduceLE, Int.reduceToNat, Int.reduceNeg, Int.reduceAdd, Int.reduceSub, Int.reduceMul, cond_true, cond_false, Int.reduceBNe, Int.reduceBEq, eq_self, deads, List.replicate, argsF, am16, isNil, app_get0, app_get, app_set0, app_set, cc, co, mkA, ← hK, hb, hb1, hC, c0, c1, c2, c3, cw, cn, c29, c43, c11, pm11, beq_self_eq_true]
theorem do_up (hn : 5 ≤ n) (hk : st.k = 3) : ∃ v H', callA am N n 16 [.ptr d 1 0, .ptr r 1 0, .agg st.cs] H = some (v, H') ∧ Stepped H H' d so r s e D v := by
  obtain ⟨n, rfl⟩ : ∃ m, n = m + 1 := ⟨n - 1, by omega⟩
  obtain ⟨K, hK⟩ : ∃ K : Heap, K = H ++ [⟨1, .var st.cs⟩, ⟨0, .dead⟩, ⟨0, .dead⟩] := ⟨_, rfl⟩
  have D1 : DAt K d so D := by rw [hK]; exact hT.da.app _
  obtain ⟨H1, c27, h1, k1, d1⟩ := @up_spec N n (by omega) K d so D D1 st.n
  have R1 : RAt H1 r s e D := by rw [hK] at k1; exact hT.rkeep (fun p hp a b => k1 p hp a)
  obtain ⟨H2, c44, h2, k2, r2⟩ := @rup_spec N n (by omega) H1 r s e D R1 st.n
  obtain ⟨a, b, hR⟩ := upR_two D st.n
  rw [hR] at c27 c44
  have hb : K[H.length]? = some ⟨1, .var st.cs⟩ := by rw [hK, app_get0]; rfl
  have l1 := hT.da.lt
  have hb1 : H1[H.length]? = some ⟨1, .var st.cs⟩ := by rw [k1 _ (lt_of_get hb) (by omega), hb]
  have c11 := fun x K => @num_spec N n (by omega) x K
  have hC := stp_len ok
  have co := stp_one ok
  have cc : (V.agg st.cs).cells = st.cs := rfl
  have c0 : List.take 1 st.cs = [.int .i64 st.k] := rfl
  have c1 : List.take 1 (List.drop 1 st.cs) = [.int .i64 st.n] := rfl
  have hlast := hT.next (l := [⟨1, .var st.cs⟩, ⟨0, .dead⟩, ⟨0, .dead⟩]) (by rw [← hK]; exact h1) (by rw [← hK]; exact fun p hp a b => k1 p hp a) d1 (Nat.le_of_eq h2.symm) (fun p hp x y z => k2 p x z) r2 (mono_up D _)
  refine ⟨_, H2, ?_, hlast⟩
  clear hlast d1 r2 R1 D1 k1 k2
  rw [hk] at c0
  refine call_keep_eq at16 rfl rfl (by decide) (sx_wp ?_)
  generalize st.cs = C at *
  simp +contextual -implicitDefEqProofs (maxSteps := 10000000) only [sxb, plainD, stays, ↓selV_wt, ↓selV_wf, ↓impB_wt, ↓impB_wf, ↓selV_nor, ↓impB_nor, ↓selV_nt, ↓selV_nf, ↓impB_nt, ↓impB_nf, ↓selV_true, ↓selV_false, ↓selV_and, ↓impB_true, ↓impB_false, ↓impB_and, ↓prim_pick, ↓selV_nn, ↓impB_nn, doOp, get, ins, del, dels, Nat.reduceLT, Nat.reduceEqDiff, ↓reduceIte, reduceCtorEq, ne_eq, implies_true, prim, YLD, mkA, V.cells, Nat.reduceAdd, Nat.reduceSub, Nat.reduceMul, Nat.reduceLeDiff, loadA, cellsAt, nAg, packA, List.drop, List.take, List.head?, binA, unA, eqCells, eqCell, negB, fillA, storeA, Ob.with, indexedI, V.oneCell, intOf?, resA, resA1, packR, sealDepth, Int.reduceLT, Int.reduceLE, Int.reduceToNat, Int.reduceNeg, Int.reduceAdd, Int.reduceSub, Int.reduceMul, cond_true, cond_false, Int.reduceBNe, Int.reduceBEq, eq_self, deads, List.replicate, argsF, am16, isNil, app_get0, app_get, app_set0, app_set, cc, co, mkA, ← hK, hb, hb1, hC, c0, c1, c27, c44, c11, pm11, beq_self_eq_true]
theorem do_whole (hn : 5 ≤ n) (hk : st.k = 6) : ∃ v H', callA am N n 16 [.ptr d 1 0, .ptr r 1 0, .agg st.cs] H = some (v, H') ∧ Stepped H H' d so r s e D v := by
  obtain ⟨n, rfl⟩ : ∃ m, n = m + 1 := ⟨n - 1, by omega⟩
  obtain ⟨K, hK⟩ : ∃ K : Heap, K = H ++ [⟨1, .var st.cs⟩, ⟨0, .dead⟩, ⟨0, .dead⟩] := ⟨_, rfl⟩
  have D1 : DAt K d so D := by rw [hK]; exact hT.da.app _
  obtain ⟨H1, c20, h1, k1, d1⟩ := @whole_spec N n (by omega) K d so D D1
  have R1 : RAt H1 r s e D := by rw [hK] at k1; exact hT.rkeep (fun p hp a b => k1 p a)
  obtain ⟨H2, c47, h2, k2, r2⟩ := @rwhole_spec N n (by omega) H1 r s e D R1
  have hb : K[H.length]? = some ⟨1, .var st.cs⟩ := by rw [hK, app_get0]; rfl
  have hC := stp_len ok
  have co := stp_one ok
  have cc : (V.agg st.cs).cells = st.cs := rfl
  have c0 : List.take 1 st.cs = [.int .i64 st.k] := rfl
  have hlast := hT.next (l := [⟨1, .var st.cs⟩, ⟨0, .dead⟩, ⟨0, .dead⟩]) (by rw [← hK]; exact Nat.le_of_eq h1.symm) (by rw [← hK]; exact fun p hp a b => k1 p a) d1 (Nat.le_of_eq h2.symm) (fun p hp x y z => k2 p x) r2 (mono_whole D)
  refine ⟨_, H2, ?_, hlast⟩
  clear hlast d1 r2 R1 D1 k1 k2
  rw [hk] at c0
  refine call_keep_eq at16 rfl rfl (by decide) (sx_wp ?_)
  generalize st.cs = C at *
  simp +contextual -implicitDefEqProofs (maxSteps := 10000000) only [sxb, plainD, stays, ↓selV_wt, ↓selV_wf, ↓impB_wt, ↓impB_wf, ↓selV_nor, ↓impB_nor, ↓selV_nt, ↓selV_nf, ↓impB_nt, ↓impB_nf, ↓selV_true, ↓selV_false, ↓selV_and, ↓impB_true, ↓impB_false, ↓impB_and, ↓prim_pick, ↓selV_nn, ↓impB_nn, doOp, get, ins, del, dels, Nat.reduceLT, Nat.reduceEqDiff, ↓reduceIte, reduceCtorEq, ne_eq, implies_true, prim, YLD, mkA, V.cells, Nat.reduceAdd, Nat.reduceSub, Nat.reduceMul, Nat.reduceLeDiff, loadA, cellsAt, nAg, packA, List.drop, List.take, List.head?, binA, unA, eqCells, eqCell, negB, fillA, storeA, Ob.with, indexedI, V.oneCell, intOf?, resA, resA1, packR, sealDepth, Int.reduceLT, Int.reduceLE, Int.reduceToNat, Int.reduceNeg, Int.reduceAdd, Int.reduceSub, Int.reduceMul, cond_true, cond_false, Int.reduceBNe, Int.reduceBEq, eq_self, deads, List.replicate, argsF, am16, isNil, app_get0, app_get, app_set0, app_set, cc, co, mkA, ← hK, hb, hC, c0, c20, c47, beq_self_eq_true]
theorem do_none (hn : 5 ≤ n) (hk : st.k < 1 ∨ 8 < st.k) : ∃ v H', callA am N n 16 [.ptr d 1 0, .ptr r 1 0, .agg st.cs] H = some (v, H') ∧ Stepped H H' d so r s e D v := by
  obtain ⟨n, rfl⟩ : ∃ m, n = m + 1 := ⟨n - 1, by omega⟩
  have hC := stp_len ok
  have co := stp_one ok
  have cc : (V.agg st.cs).cells = st.cs := rfl
  have c0 : List.take 1 st.cs = [.int .i64 st.k] := rfl
  have g : ∀ j : Int, 1 ≤ j → j ≤ 8 → (st.k == j) = false := fun j h1 h2 => by simp; omega
  have g1 := g 1 (by omega) (by omega)
  have g2 := g 2 (by omega) (by omega)
  have g3 := g 3 (by omega) (by omega)
  have g4 := g 4 (by omega) (by omega)
  have g5 := g 5 (by omega) (by omega)
  have g6 := g 6 (by omega) (by omega)
  have g7 := g 7 (by omega) (by omega)
  have g8 := g 8 (by omega) (by omega)
  refine ⟨.tup [.ptr d 1 0, .ptr r 1 0, .bool true], H ++ [⟨1, .var st.cs⟩, ⟨0, .dead⟩, ⟨0, .dead⟩], ?_, d, so, r, s, e, D, rfl, hT.app _, Mono.refl D, by simp, fun p hp _ _ _ _ _ => List.getElem?_append_left hp, fun q hq => .inl hq⟩
  refine call_keep_eq at16 rfl rfl (by decide) (sx_wp ?_)
  generalize st.cs = C at *
  simp +contextual -implicitDefEqProofs (maxSteps := 10000000) only [sxb, plainD, stays, ↓selV_wt, ↓selV_wf, ↓impB_wt, ↓impB_wf, ↓selV_nor, ↓impB_nor, ↓selV_nt, ↓selV_nf, ↓impB_nt, ↓impB_nf, ↓selV_true, ↓selV_false, ↓selV_and, ↓impB_true, ↓impB_false, ↓impB_and, ↓prim_pick, ↓selV_nn, ↓impB_nn, doOp, get, ins, del, dels, Nat.reduceLT, Nat.reduceEqDiff, ↓reduceIte, reduceCtorEq, ne_eq, implies_true, prim, YLD, mkA, V.cells, Nat.reduceAdd, Nat.reduceSub, Nat.reduceMul, Nat.reduceLeDiff, loadA, cellsAt, nAg, packA, List.drop, List.take, List.head?, binA, unA, eqCells, eqCell, negB, fillA, storeA, Ob.with, indexedI, V.oneCell, intOf?, resA, resA1, packR, sealDepth, Int.reduceLT, Int.reduceLE, Int.reduceToNat, Int.reduceNeg, Int.reduceAdd, Int.reduceSub, Int.reduceMul, cond_true, cond_false, Int.reduceBNe, Int.reduceBEq, eq_self, deads, List.replicate, argsF, am16, isNil, app_get0, app_get, app_set0, app_set, cc, co, mkA, hC, c0, g1, g2, g3, g4, g5, g6, g7, g8]
end
end Go.Am.T


set_option linter.unusedVariables false
set_option linter.unusedSimpArgs false
set_option maxRecDepth 10000
namespace Go.Am.T
attribute [local congr] selV_congr impB_congr
attribute [local irreducible] sx wp
theorem frame_d {N n : Nat} {f : FuncId} {args : List V} {v : V} {K : Heap} {d so : Nat} {D D1 : Dv} (hm : pureOf am f = .keep) (ho : V.objsL args = [d]) (hK : DAt K d so D)
    (spec : ∀ K', DAt K' d so D → ∃ H', callA am N n f args K' = some (v, H') ∧ K'.length ≤ H'.length ∧ (∀ p, p < K'.length → p ≠ d → p ≠ so → H'[p]? = K'[p]?) ∧ DAt H' d so D1) (fb : Nat) (hy : f ≠ YLD := by decide) :
    ∃ H', ({ pureF := pureOf am, call := callA am N n, N := N, fb := fb } : Env).framed.call f args K = some (v, H') ∧ K.length ≤ H'.length ∧ (∀ p, p < K.length → p ≠ d → p ≠ so → H'[p]? = K[p]?) ∧ DAt H' d so D1 := by
  obtain ⟨h1, hc, hl, hk, hd⟩ := spec (keepOnly [d, so] K) hK.only
  obtain ⟨e1, e2⟩ := frame_all clean_am hm (.inl rfl) (args := args) (by rw [ho]; exact hK.reach) hK.closed hc hy
  refine ⟨_, e1, by rw [mergeH_length]; exact e2, fun p hp h1 h2 => merge_out (by simp [h1, h2]) hp e2, hd.keep fun p hp => merge_in (.inl (by simpa using hp))⟩
theorem frame_r {N n : Nat} {f : FuncId} {args : List V} {v : V} {K : Heap} {r s e : Nat} {D D1 : Dv} (hm : pureOf am f = .keep) (ho : V.objsL args = [r]) (hK : RAt K r s e D)
    (spec : ∀ K', RAt K' r s e D → ∃ H', callA am N n f args K' = some (v, H') ∧ K'.length ≤ H'.length ∧ RAt H' r s e D1) (fb : Nat) (hy : f ≠ YLD := by decide) :
    ∃ H', ({ pureF := pureOf am, call := callA am N n, N := N, fb := fb } : Env).framed.call f args K = some (v, H') ∧ K.length ≤ H'.length ∧ (∀ p, p < K.length → p ≠ r → p ≠ s → p ≠ e → H'[p]? = K[p]?) ∧ RAt H' r s e D1 := by
  obtain ⟨h1, hc, hl, hd⟩ := spec (keepOnly [r, s, e] K) hK.only
  obtain ⟨e1, e2⟩ := frame_all clean_am hm (.inl rfl) (args := args) (by rw [ho]; exact hK.reach) hK.closed hc hy
  refine ⟨_, e1, by rw [mergeH_length]; exact e2, fun p hp h1 h2 h3 => merge_out (by simp [h1, h2, h3]) hp e2, hd.keep fun p hp => merge_in (.inl (by simpa using hp))⟩
section
variable {N n : Nat} {H : Heap} {d so r s e : Nat} {D : Dv} (hT : Two H d so r s e D) {st : Stp} (ok : st.Ok)
include hT ok
theorem do_fence (hn : 5 ≤ n) (hk : st.k = 4) : ∃ v H', callA am N n 16 [.ptr d 1 0, .ptr r 1 0, .agg st.cs] H = some (v, H') ∧ Stepped H H' d so r s e D v := by
  obtain ⟨n, rfl⟩ : ∃ m, n = m + 1 := ⟨n - 1, by omega⟩
  obtain ⟨K, hK⟩ : ∃ K : Heap, K = H ++ [⟨1, .var st.cs⟩, ⟨0, .dead⟩, ⟨0, .dead⟩] := ⟨_, rfl⟩
  have hKl : K.length = H.length + 3 := by rw [hK]; simp
  have D1 : DAt K d so D := by rw [hK]; exact hT.da.app _
  obtain ⟨H1, c24, h1, k1, d1⟩ := @frame_d N n 24 [.ptr d 1 0, .int .i64 st.n, .int .i64 st.e, .int .i64 st.a, .int .i64 st.b] _ K d so D _ pm24 rfl D1 (fun K' hK' => by
    obtain ⟨H', q1, q2, q3, q4⟩ := @fence_spec N n (by omega) K' d so D hK' st.n st.e st.a st.b
    exact ⟨H', q1, q2, fun p hp a _ => q3 p hp a, q4⟩) H.length (by decide)
  have R1 : RAt H1 r s e D := by rw [hK] at k1; exact hT.rkeep k1
  obtain ⟨H2, c45, h2, k2, r2⟩ := @frame_r N n 45 [.ptr r 1 0, .int .i64 st.n, .int .i64 st.e, .int .i64 st.a, .int .i64 st.b] _ H1 r s e D _ pm45 rfl R1 (fun K' hK' => by
    obtain ⟨H', q1, q2, q3, q4⟩ := @rfence_spec N n (by omega) K' r s e D hK' st.n st.e st.a st.b
    exact ⟨H', q1, Nat.le_of_eq q2.symm, q4⟩) H.length (by decide)
  have hb : K[H.length]? = some ⟨1, .var st.cs⟩ := by rw [hK, app_get0]; rfl
  have l1 := hT.da.lt
  have hb1 : H1[H.length]? = some ⟨1, .var st.cs⟩ := by rw [k1 _ (lt_of_get hb) (by omega) (by omega), hb]
  have c11 := fun x K => @num_spec N n (by omega) x K
  have hC := stp_len ok
  have co := stp_one ok
  have cc : (V.agg st.cs).cells = st.cs := rfl
  have c0 : List.take 1 st.cs = [.int .i64 st.k] := rfl
  have c1 : List.take 1 (List.drop 1 st.cs) = [.int .i64 st.n] := rfl
  have c2 : List.take 1 (List.drop 2 st.cs) = [.int .i64 st.a] := rfl
  have c3 : List.take 1 (List.drop 3 st.cs) = [.int .i64 st.e] := rfl
  have c4 : List.take 1 (List.drop 4 st.cs) = [.int .i64 st.b] := rfl
  have hlast := hT.next (l := [⟨1, .var st.cs⟩, ⟨0, .dead⟩, ⟨0, .dead⟩]) (by rw [← hK]; exact h1) (by rw [← hK]; exact k1) d1 h2 k2 r2 (mono_fence D _ _ _ _)
  have n1 : (d == H.length) = false := by simp; omega
  have n2 : (so == H.length) = false := by simp; omega
  have n1' : (H.length == d) = false := by simp; omega
  have n2' : (H.length == so) = false := by simp; omega
  have lk : decide (H.length < K.length) = true := decide_eq_true (by omega)
  have dr := D1.reach
  have rr := R1.reach
  refine ⟨_, H2, ?_, hlast⟩
  clear hlast d1 r2 R1 D1 k1 k2
  rw [hk] at c0
  refine call_keep_eq at16 rfl rfl (by decide) (sx_wp ?_)
  generalize st.cs = C at *
  simp +contextual -implicitDefEqProofs (maxSteps := 10000000) only [sxb, plainD, stays, ↓selV_wt, ↓selV_wf, ↓impB_wt, ↓impB_wf, ↓selV_nor, ↓impB_nor, ↓selV_nt, ↓selV_nf, ↓impB_nt, ↓impB_nf, ↓selV_true, ↓selV_false, ↓selV_and, ↓impB_true, ↓impB_false, ↓impB_and, ↓prim_pick, ↓selV_nn, ↓impB_nn, doOp, get, ins, del, dels, Nat.reduceLT, Nat.reduceEqDiff, ↓reduceIte, reduceCtorEq, ne_eq, implies_true, prim, YLD, mkA, V.cells, Nat.reduceAdd, Nat.reduceSub, Nat.reduceMul, Nat.reduceLeDiff, loadA, cellsAt, nAg, packA, List.drop, List.take, List.head?, binA, unA, eqCells, eqCell, negB, fillA, storeA, Ob.with, indexedI, V.oneCell, intOf?, resA, resA1, packR, sealDepth, Int.reduceLT, Int.reduceLE, Int.reduceToNat, Int.reduceNeg, Int.reduceAdd, Int.reduceSub, Int.reduceMul, cond_true, cond_false, Int.reduceBNe, Int.reduceBEq, eq_self, deads, List.replicate, argsF, am16, isNil, app_get0, app_get, app_set0, app_set, cc, co, mkA, ← hK, hb, hb1, hC, c0, c1, c2, c3, c4, sx_drawd, reachC_nil, wpd_nil, wpd_cons, wpd_gt, wpd_gf, wpd_gu, wdK_def, fpOf, fpV, fpCall, Fp.ok, okT_of, okT_rd_io, okT_rd_call, okT_rd_bar, tagP_io, tagP_bar, tagP_call, tagF, AOp.rds, disj, List.contains_cons, List.contains_nil, Nat.reduceBEq, List.all_append, V.objsL, V.objs,  List.getD_cons_zero, List.getD_cons_succ, List.append_nil, c24, c45, c11, pm11, pm24, pm45, beq_self_eq_true, n1, n2, n1', n2', lk, dr, rr]
theorem do_cut (hn : 5 ≤ n) (hk : st.k = 5) : ∃ v H', callA am N n 16 [.ptr d 1 0, .ptr r 1 0, .agg st.cs] H = some (v, H') ∧ Stepped H H' d so r s e D v := by
  obtain ⟨n, rfl⟩ : ∃ m, n = m + 1 := ⟨n - 1, by omega⟩
  obtain ⟨K, hK⟩ : ∃ K : Heap, K = H ++ [⟨1, .var st.cs⟩, ⟨0, .dead⟩, ⟨0, .dead⟩] := ⟨_, rfl⟩
  have hKl : K.length = H.length + 3 := by rw [hK]; simp
  have D1 : DAt K d so D := by rw [hK]; exact hT.da.app _
  obtain ⟨H1, c25, h1, k1, d1⟩ := @frame_d N n 25 [.ptr d 1 0, .int .i64 st.a] _ K d so D _ pm25 rfl D1 (fun K' hK' => by
    obtain ⟨H', q1, q2, q3, q4⟩ := @cut_spec N n (by omega) K' d so D hK' st.a ok.a
    exact ⟨H', q1, Nat.le_of_eq q2.symm, fun p hp a _ => q3 p a, q4⟩) H.length (by decide)
  have R1 : RAt H1 r s e D := by rw [hK] at k1; exact hT.rkeep k1
  obtain ⟨H2, c46, h2, k2, r2⟩ := @frame_r N n 46 [.ptr r 1 0, .int .i64 st.a] _ H1 r s e D _ pm46 rfl R1 (fun K' hK' => by
    obtain ⟨H', q1, q2, q3, q4⟩ := @rcut_spec N n (by omega) K' r s e D hK' st.a ok.a
    exact ⟨H', q1, Nat.le_of_eq q2.symm, q4⟩) H.length (by decide)
  have hb : K[H.length]? = some ⟨1, .var st.cs⟩ := by rw [hK, app_get0]; rfl
  have l1 := hT.da.lt
  have hb1 : H1[H.length]? = some ⟨1, .var st.cs⟩ := by rw [k1 _ (lt_of_get hb) (by omega) (by omega), hb]
  have c11 := fun x K => @num_spec N n (by omega) x K
  have hC := stp_len ok
  have co := stp_one ok
  have cc : (V.agg st.cs).cells = st.cs := rfl
  have c0 : List.take 1 st.cs = [.int .i64 st.k] := rfl
  have c2 : List.take 1 (List.drop 2 st.cs) = [.int .i64 st.a] := rfl
  have hlast := hT.next (l := [⟨1, .var st.cs⟩, ⟨0, .dead⟩, ⟨0, .dead⟩]) (by rw [← hK]; exact h1) (by rw [← hK]; exact k1) d1 h2 k2 r2 (mono_cut D _)
  have n1 : (d == H.length) = false := by simp; omega
  have n2 : (so == H.length) = false := by simp; omega
  have n1' : (H.length == d) = false := by simp; omega
  have n2' : (H.length == so) = false := by simp; omega
  have lk : decide (H.length < K.length) = true := decide_eq_true (by omega)
  have dr := D1.reach
  have rr := R1.reach
  refine ⟨_, H2, ?_, hlast⟩
  clear hlast d1 r2 R1 D1 k1 k2
  generalize (bif decide (st.a < 0) then (2 : Int) else bif D.cut then 9 else 0) = er at *
  rw [hk] at c0
  refine call_keep_eq at16 rfl rfl (by decide) (sx_wp ?_)
  generalize st.cs = C at *
  simp +contextual -implicitDefEqProofs (maxSteps := 10000000) only [sxb, plainD, stays, ↓selV_wt, ↓selV_wf, ↓impB_wt, ↓impB_wf, ↓selV_nor, ↓impB_nor, ↓selV_nt, ↓selV_nf, ↓impB_nt, ↓impB_nf, ↓selV_true, ↓selV_false, ↓selV_and, ↓impB_true, ↓impB_false, ↓impB_and, ↓prim_pick, ↓selV_nn, ↓impB_nn, doOp, get, ins, del, dels, Nat.reduceLT, Nat.reduceEqDiff, ↓reduceIte, reduceCtorEq, ne_eq, implies_true, prim, YLD, mkA, V.cells, Nat.reduceAdd, Nat.reduceSub, Nat.reduceMul, Nat.reduceLeDiff, loadA, cellsAt, nAg, packA, List.drop, List.take, List.head?, binA, unA, eqCells, eqCell, negB, fillA, storeA, Ob.with, indexedI, V.oneCell, intOf?, resA, resA1, packR, sealDepth, Int.reduceLT, Int.reduceLE, Int.reduceToNat, Int.reduceNeg, Int.reduceAdd, Int.reduceSub, Int.reduceMul, cond_true, cond_false, Int.reduceBNe, Int.reduceBEq, eq_self, deads, List.replicate, argsF, am16, isNil, app_get0, app_get, app_set0, app_set, cc, co, mkA, ← hK, hb, hb1, hC, c0, c2, sx_drawd, reachC_nil, wpd_nil, wpd_cons, wpd_gt, wpd_gf, wpd_gu, wdK_def, fpOf, fpV, fpCall, Fp.ok, okT_of, okT_rd_io, okT_rd_call, okT_rd_bar, tagP_io, tagP_bar, tagP_call, tagF, AOp.rds, disj, List.contains_cons, List.contains_nil, Nat.reduceBEq, List.all_append, V.objsL, V.objs,  List.getD_cons_zero, List.getD_cons_succ, List.append_nil, c25, c46, c11, pm11, pm25, pm46, beq_self_eq_true, n1, n2, n1', n2', lk, dr, rr]
end
end Go.Am.T


set_option linter.unusedVariables false
set_option linter.unusedSimpArgs false
set_option maxRecDepth 10000
namespace Go.Am.T
attribute [local congr] selV_congr impB_congr
attribute [local irreducible] sx wp
def sev : List Int := List.replicate 64 7
def nin : List Int := List.replicate 64 9
def ownS (L : List (List Int)) (k : Nat) : List (List Int) := List.replicate k nin ++ (L ++ [sev]).drop k
theorem ownS_sec {L : List (List Int)} (h : ∀ v ∈ L, v.length = 64) (k : Nat) : ∀ v ∈ ownS L k, v.length = 64 := by
  intro v hv
  rcases List.mem_append.1 hv with hv | hv
  · rw [List.eq_of_mem_replicate hv]; rfl
  · have := List.mem_of_mem_drop hv
    rcases List.mem_append.1 this with h1 | h1
    · exact h v h1
    · rw [List.mem_singleton.1 h1]; rfl
theorem ownS_len {L : List (List Int)} {k : Nat} (hk : k ≤ L.length) : (ownS L k).length = L.length + 1 := by
  simp [ownS]; omega
theorem ownS_at {L : List (List Int)} {k : Nat} (hk : k < L.length) : (ownS L k).getD k zeroS = L[k] := by
  rw [ownS, List.getD_eq_getElem?_getD, List.getElem?_append_right (by simp), List.length_replicate, Nat.sub_self, List.getElem?_drop, Nat.add_zero, List.getElem?_append_left hk, List.getElem?_eq_getElem hk]
  rfl
theorem ownS_last {L : List (List Int)} : (ownS L 0).getD L.length zeroS = sev := by
  show (L ++ [sev]).getD L.length zeroS = sev
  rw [List.getD_eq_getElem?_getD, List.getElem?_append_right (Nat.le_refl _), Nat.sub_self]
  rfl
theorem ownS_set {L : List (List Int)} {k : Nat} (hk : k < L.length) : (ownS L k).set k nin = ownS L (k + 1) := by
  have e : (L ++ [sev]).drop k = L[k] :: (L ++ [sev]).drop (k + 1) := by rw [List.drop_eq_getElem_cons (by simp; omega), List.getElem_append_left hk]
  unfold ownS
  rw [List.set_append_right _ _ (by simp), List.length_replicate, Nat.sub_self, e, List.set_cons_zero, List.replicate_succ', List.append_assoc]
  rfl
theorem slice_head64 {K : Heap} {ob vb len : Nat} {cells : List V} (ho : K[ob]? = some ⟨vb, .arr cells⟩) (hc : cells.length = (len + 1) * 64) :
    sliceA (fun o => K[o]?) 64 (.view ob vb 0 (len + 1) 64 none) none (some (.int .i64 (len : Nat))) none = some (.view ob vb 0 len 64 none) := by
  have h1 : (len : Int) ≤ ((len + 1 : Nat) : Int) := by omega
  have h0 : (0 : Int) ≤ (len : Int) := by omega
  have h2 : ((len : Nat) : Int).toNat = len := Int.toNat_natCast len
  have h3 : (len + 1) * 64 / 64 = len + 1 := by omega
  simp only [sliceA, ↓reduceIte, cellsAt, ho, boundsA, Option.isNone, intOf?, Option.bind_some, h0, h1, h2, hc, h3, Nat.sub_zero]
theorem own_rd {K : Heap} {X : List Nat} {oo vo : Nat} {L M : List (List Int)} (ho : K[oo]? = some ⟨vo, .arr ((L ++ M).flatten.map (V.int .u8))⟩) (hL : ∀ v ∈ L, v.length = 64) (hM : ∀ v ∈ M, v.length = 64) (hX : oo ∉ X) : RdS K X (.view oo vo 0 L.length 64 none) L := by
  have hs : ∀ v ∈ L ++ M, v.length = 64 := fun v hv => by
    rcases List.mem_append.1 hv with h | h
    · exact hL v h
    · exact hM v h
  refine ⟨rfl, fun _ => V.noConfusion, ⟨rfl, V.noConfusion⟩, hL, fun i hi => .inr ⟨oo, vo, i * 64, _, hX, lt_of_get ho, ?_, ho, ?_, ?_⟩⟩
  · have h0 : (0 : Int) ≤ (i : Int) := by omega
    have h1 : (i : Int) < (L.length : Int) := by omega
    simp only [iaddrSA, indexedI, ↓reduceIte, h0, h1, Option.map_some, Int.toNat_natCast, Nat.zero_add]
  · rw [List.length_map, flat_len hs, List.length_append]; omega
  · rw [flat_at hs (by rw [List.length_append]; omega), List.getD_eq_getElem?_getD, List.getElem?_append_left hi, List.getElem?_eq_getElem hi]
    rfl
theorem Two.next' {H H1 H2 : Heap} {d so r s e : Nat} {D D' : Dv} (hT : Two H d so r s e D) (h1 : H.length ≤ H1.length) (k1 : ∀ p, p < H.length → p ≠ d → p ≠ so → H1[p]? = H[p]?) (d1 : DAt H1 d so D')
    (h2 : H1.length ≤ H2.length) (k2 : ∀ p, p < H.length → p ≠ r → p ≠ s → p ≠ e → H2[p]? = H1[p]?) (r2 : RAt H2 r s e D') (hm : Mono D D') : Stepped H H2 d so r s e D (.tup [.ptr d 1 0, .ptr r 1 0, .bool true]) := by
  obtain ⟨m1, m2⟩ := hT.da.lt
  refine ⟨d, so, r, s, e, D', rfl, ⟨d1.keep fun p hp => ?_, r2, hT.nrd, hT.nro, hT.nsd, hT.nso, hT.ned, hT.neo⟩, hm, by omega, fun p hp a b c f g => ?_, fun q hq => .inl hq⟩
  · rcases hp with rfl | rfl
    · exact k2 _ m1 (Ne.symm hT.nrd) (Ne.symm hT.nsd) (Ne.symm hT.ned)
    · exact k2 _ m2 (Ne.symm hT.nro) (Ne.symm hT.nso) (Ne.symm hT.neo)
  · rw [k2 p hp c f g, k1 p hp a b]
section
variable {N n : Nat} {H : Heap} {d so r s e : Nat} {D : Dv} (hT : Two H d so r s e D) {st : Stp} (ok : st.Ok)
include hT ok
set_option maxHeartbeats 4000000 in
theorem do_write_nil (hN : 1200000 ≤ N) (hn : 6 ≤ n) (hk : st.k = 1) (hL9 : st.L.length ≤ 1100000) (hcase : st.L = []) : ∃ v H', callA am N n 16 [.ptr d 1 0, .ptr r 1 0, .agg st.cs] H = some (v, H') ∧ Stepped H H' d so r s e D v := by
  obtain ⟨n, rfl⟩ : ∃ m, n = m + 1 := ⟨n - 1, by omega⟩
  obtain ⟨K, hK⟩ : ∃ K : Heap, K = H ++ [⟨1, .var st.cs⟩, ⟨0, .dead⟩, ⟨0, .dead⟩] := ⟨_, rfl⟩
  obtain ⟨K1, hK1⟩ : ∃ K1 : Heap, K1 = H ++ [⟨1, .var st.cs⟩, ⟨0, .dead⟩, ⟨1, .arr ((st.L ++ [sev]).flatten.map (V.int .u8))⟩] := ⟨_, rfl⟩
  have hKl : K.length = H.length + 3 := by rw [hK]; simp
  have hK1l : K1.length = H.length + 3 := by rw [hK1]; simp
  have hsec := ok.l.2
  have D1 : DAt K1 d so D := by rw [hK1]; exact hT.da.app _
  have l1 := hT.da.lt
  obtain ⟨l2, l3, l4⟩ := hT.ra.lt
  have hoK : K1[H.length + 2]? = some ⟨1, .arr ((st.L ++ [sev]).flatten.map (V.int .u8))⟩ := by rw [hK1, app_get]; rfl
  have hM : ∀ v ∈ [sev], v.length = 64 := fun v hv => by rw [List.mem_singleton.1 hv]; rfl
  have hrd := @own_rd K1 [d, so] (H.length + 2) 1 st.L [sev] hoK hsec hM (by simp; omega)
  obtain ⟨H1, c22, h1, k1, d1⟩ := @write_spec N n (by omega) (by omega) K1 d so D D1 st.n st.e st.a _ st.L hrd
  have R1 : RAt H1 r s e D := by rw [hK1] at k1; exact hT.rkeep k1
  have hb : K[H.length]? = some ⟨1, .var st.cs⟩ := by rw [hK, app_get0]; rfl
  have hbK1 : K1[H.length]? = some ⟨1, .var st.cs⟩ := by rw [hK1, app_get0]; rfl
  have hb1 : H1[H.length]? = some ⟨1, .var st.cs⟩ := by rw [k1 _ (by omega) (by omega) (by omega), hbK1]
  have ho1 : H1[H.length + 2]? = some ⟨1, .arr ((ownS st.L 0).flatten.map (V.int .u8))⟩ := by rw [k1 _ (by omega) (by omega) (by omega), hoK]; rfl
  have c11 := fun x K => @num_spec N n (by omega) x K
  have c23 := fun K => @full_spec N n (by omega) (by omega) 7 (by simp) K
  have c239 := fun K => @full_spec N n (by omega) (by omega) 9 (by simp) K
  have hC := stp_len ok
  have co := stp_one ok
  have cc : (V.agg st.cs).cells = st.cs := rfl
  have c0 : List.take 1 st.cs = [.int .i64 st.k] := rfl
  have c1 : List.take 1 (List.drop 1 st.cs) = [.int .i64 st.n] := rfl
  have c2 : List.take 1 (List.drop 2 st.cs) = [.int .i64 st.a] := rfl
  have c3 : List.take 1 (List.drop 3 st.cs) = [.int .i64 st.e] := rfl
  have c5 : List.take 1 (List.drop 5 st.cs) = [st.lv] := rfl
  rw [hk] at c0
  have lv0 := ok.l.rd K []
  have lvl := lv0.len
  have lvn := lv0.nstr
  have lvat : ∀ i, (hi : i < st.L.length) → iaddrSA 64 st.lv (.int .i64 (i : Nat)) = some (.ret (.iptr (st.L[i].map (V.int .u8)) 0)) := fun i hi => by
    rcases ok.l.1 with ⟨h, -⟩ | ⟨c, h⟩
    · rw [h] at hi; simp at hi
    · rw [h]; exact sl_at hi c
  have fl0 : ((ownS st.L 0).flatten.map (V.int .u8)).length = (st.L.length + 1) * 64 := by rw [List.length_map, flat_len (ownS_sec hsec 0), ownS_len (Nat.zero_le _)]
  have slh := @slice_head64 K1 (H.length + 2) 1 st.L.length _ hoK fl0
  have s7 : (sev.map (V.int .u8)).length = 64 := rfl
  have o7 := ints_one .u8 sev
  have t7 : List.take 64 (sev.map (V.int .u8)) = sev.map (V.int .u8) := rfl
  have s9 : (nin.map (V.int .u8)).length = 64 := rfl
  have o9 := ints_one .u8 nin
  have fa0 : List.take 64 (List.drop (st.L.length * 64) ((ownS st.L 0).flatten.map (V.int .u8))) = sev.map (V.int .u8) := by
    rw [flat_at (ownS_sec hsec 0) (by rw [ownS_len (Nat.zero_le _)]; omega), ownS_last]
  have le0 : st.L.length * 64 + 64 ≤ (st.L.length + 1) * 64 := by omega
  have i0 : (0 : Int) ≤ (st.L.length : Int) := by omega
  have i1 : (st.L.length : Int) < ((st.L.length + 1 : Nat) : Int) := by omega
  have eq7 := @eqCells_ints .u8 64 sev sev rfl rfl
  simp only [List.replicate, decide_true] at eq7
  have csev : secV (List.replicate 64 7) = .agg (sev.map (V.int .u8)) := rfl
  have cnin : secV (List.replicate 64 9) = .agg (nin.map (V.int .u8)) := rfl
  rw [csev] at c23
  rw [cnin] at c239
  have hlv : st.lv = .nils ∨ ∃ c, st.lv = .sl [] 64 c := by
    rcases ok.l.1 with ⟨-, h⟩ | ⟨c, h⟩
    · exact .inl h
    · exact .inr ⟨c, by rw [h, hcase]; rfl⟩
  have a1 : appendA (fun o => K[o]?) (H.length + 1) 64 64 .nils st.lv = some (.ret .nils) := by
    rcases hlv with h | ⟨c, h⟩ <;> rw [h] <;> rfl
  have e1 : (st.L ++ [sev]).flatten.map (V.int .u8) = sev.map (V.int .u8) := by rw [hcase]; rfl
  have a2 : appendA (fun o => K[o]?) (H.length + 2) 64 64 .nils (.sl [.agg (sev.map (V.int .u8))] 64 (some 1)) = some (.set (H.length + 2) ⟨1, .arr ((st.L ++ [sev]).flatten.map (V.int .u8))⟩ (.view (H.length + 2) 1 0 (st.L.length + 1) 64 none)) := by
    rw [e1, hcase]
    exact app_new (x := ⟨0, .dead⟩) (by rw [hK, app_get]; rfl) rfl rfl o7 (by decide) (by decide)
  have sK : K.set (H.length + 2) ⟨1, .arr ((st.L ++ [sev]).flatten.map (V.int .u8))⟩ = K1 := by rw [hK, app_set, hK1]; rfl
  have sf7 : fillA [V.int .u8 0, V.int .u8 0, V.int .u8 0, V.int .u8 0, V.int .u8 0, V.int .u8 0, V.int .u8 0, V.int .u8 0, V.int .u8 0, V.int .u8 0, V.int .u8 0, V.int .u8 0, V.int .u8 0, V.int .u8 0, V.int .u8 0, V.int .u8 0, V.int .u8 0, V.int .u8 0, V.int .u8 0, V.int .u8 0, V.int .u8 0, V.int .u8 0, V.int .u8 0, V.int .u8 0, V.int .u8 0, V.int .u8 0, V.int .u8 0, V.int .u8 0, V.int .u8 0, V.int .u8 0, V.int .u8 0, V.int .u8 0, V.int .u8 0, V.int .u8 0, V.int .u8 0, V.int .u8 0, V.int .u8 0, V.int .u8 0, V.int .u8 0, V.int .u8 0, V.int .u8 0, V.int .u8 0, V.int .u8 0, V.int .u8 0, V.int .u8 0, V.int .u8 0, V.int .u8 0, V.int .u8 0, V.int .u8 0, V.int .u8 0, V.int .u8 0, V.int .u8 0, V.int .u8 0, V.int .u8 0, V.int .u8 0, V.int .u8 0, V.int .u8 0, V.int .u8 0, V.int .u8 0, V.int .u8 0, V.int .u8 0, V.int .u8 0, V.int .u8 0, V.int .u8 0] [(0, 64, V.agg (sev.map (V.int .u8)))] = some (sev.map (V.int .u8)) := by
    simp only [fillA, V.cells]
    rfl
  have wS : wrapV (sev.map (V.int .u8)) = .agg (sev.map (V.int .u8)) := rfl
  have hK10 : ∀ p, p < H.length → K1[p]? = H[p]? := fun p hp => by rw [hK1, List.getElem?_append_left hp]
  suffices Hs : ∃ v H', callA am N (n + 1) 16 [.ptr d 1 0, .ptr r 1 0, .agg st.cs] H = some (v, H') ∧ Stepped H H' d so r s e D v by exact Hs
  refine call_keep at16 rfl rfl (by decide) (sx_wp ?_)
  have hK' := hK
  have hK1' := hK1
  generalize hCC : st.cs = C at *
  generalize hs7 : sev.map (V.int .u8) = S7 at *
  simp +contextual -implicitDefEqProofs (maxSteps := 10000000) only [sxb, plainD, stays, ↓selV_wt, ↓selV_wf, ↓impB_wt, ↓impB_wf, ↓selV_nor, ↓impB_nor, ↓selV_nt, ↓selV_nf, ↓impB_nt, ↓impB_nf, ↓selV_true, ↓selV_false, ↓selV_and, ↓impB_true, ↓impB_false, ↓impB_and, ↓prim_pick, ↓selV_nn, ↓impB_nn, doOp, get, ins, del, dels, Nat.reduceLT, Nat.reduceEqDiff, ↓reduceIte, reduceCtorEq, ne_eq, implies_true, prim, YLD, mkA, V.cells, Nat.reduceAdd, Nat.reduceSub, Nat.reduceMul, Nat.reduceLeDiff, loadA, cellsAt, nAg, packA, List.drop, List.take, List.head?, binA, unA, eqCells, eqCell, negB, fillA, storeA, Ob.with, indexedI, V.oneCell, intOf?, resA, resA1, packR, sealDepth, Int.reduceLT, Int.reduceLE, Int.reduceToNat, Int.reduceNeg, Int.reduceAdd, Int.reduceSub, Int.reduceMul, cond_true, cond_false, Int.reduceBNe, Int.reduceBEq, eq_self, deads, List.replicate, argsF, am16, isNil, app_get0, app_get, app_set0, app_set, cc, co, mkA, hb, hC, c0, c5, a1, a2, sK, c23, c1, c2, c3, lvl, slh, c22, hb1, ho1, fl0, fa0, le0, lenA_view, iaddrS_v, i0, i1, Int.toNat_natCast, eq7, s7, o7, t7, wS, List.range, List.range.loop, ← hK', ← hK1', hbK1]
  refine sx_loop (fun i t K' => i ≤ st.L.length ∧ t = fr 275 [(0, .ptr d 1 0), (1, .ptr r 1 0), (5, .ptr H.length 1 0), (9, .view (H.length + 2) 1 0 (st.L.length + 1) 64 none), (10, .int .i64 (D.wrR st.n st.e st.a st.L)), (11, .bool true), (12, .int .i64 i)] ∧
    K'.length = H1.length ∧ K'[H.length + 2]? = some ⟨1, .arr ((ownS st.L i).flatten.map (V.int .u8))⟩ ∧ ∀ p, p ≠ H.length + 2 → K'[p]? = H1[p]?) st.L.length (by show st.L.length < N; omega) ⟨Nat.zero_le _, rfl, rfl, ho1, fun _ _ => rfl⟩ ?_
  clear hK' hK1' hK hK1 a1 a2 sK c22 c23 fa0 slh
  rintro i t K' hi ⟨hi', rfl, hKl', hKo, hKk⟩
  have hbK : K'[H.length]? = some ⟨1, .var C⟩ := by rw [hKk _ (by omega), hb1]
  by_cases hlt : i < st.L.length
  · have g1 : decide ((i : Int) < (st.L.length : Int)) = true := decide_eq_true (by omega)
    have w4 : IntKind.i64.wrap ((i : Int) + 1) = ((i + 1 : Nat) : Int) := (wrap64 (by omega) (by omega)).trans (by omega)
    have hi1 : i + 1 ≤ st.L.length := by omega
    have j0 : (0 : Int) ≤ (i : Int) := by omega
    have j1 : (i : Int) < ((st.L.length + 1 : Nat) : Int) := by omega
    have hv := hsec st.L[i] (List.getElem_mem hlt)
    have lat := lvat i hlt
    have fl : ((ownS st.L i).flatten.map (V.int .u8)).length = (st.L.length + 1) * 64 := by rw [List.length_map, flat_len (ownS_sec hsec i), ownS_len hi']
    have fa : List.take 64 (List.drop (i * 64) ((ownS st.L i).flatten.map (V.int .u8))) = st.L[i].map (V.int .u8) := by
      rw [flat_at (ownS_sec hsec i) (by rw [ownS_len hi']; omega), ownS_at hlt]
    have fs := @flat_set (ownS st.L i) i nin (ownS_sec hsec i) rfl (by rw [ownS_len hi']; omega)
    rw [ownS_set hlt] at fs
    have le : i * 64 + 64 ≤ (st.L.length + 1) * 64 := by omega
    have eq := @eqCells_ints .u8 64 _ _ hv hv
    simp only [List.replicate, decide_true] at eq
    have l64 : (st.L[i].map (V.int .u8)).length = 64 := by simp [hv]
    have t64 : List.take 64 (st.L[i].map (V.int .u8)) = st.L[i].map (V.int .u8) := List.take_of_length_le (by omega)
    have gs : ∀ z : Ob, (K'.set (H.length + 2) z)[H.length + 2]? = some z := fun z => List.getElem?_set_self (lt_of_get hKo)
    have gn : ∀ (z : Ob) (p : Nat), p ≠ H.length + 2 → (K'.set (H.length + 2) z)[p]? = K'[p]? := fun z p hp => List.getElem?_set_ne (Ne.symm hp)
    have gl : ∀ z : Ob, (K'.set (H.length + 2) z).length = K'.length := fun z => List.length_set
    simp +contextual -implicitDefEqProofs (maxSteps := 10000000) only [sxb, plainD, stays, ↓selV_wt, ↓selV_wf, ↓impB_wt, ↓impB_wf, ↓selV_nor, ↓impB_nor, ↓selV_nt, ↓selV_nf, ↓impB_nt, ↓impB_nf, ↓selV_true, ↓selV_false, ↓selV_and, ↓impB_true, ↓impB_false, ↓impB_and, ↓prim_pick, ↓selV_nn, ↓impB_nn, doOp, get, ins, del, dels, Nat.reduceLT, Nat.reduceEqDiff, ↓reduceIte, reduceCtorEq, ne_eq, implies_true, prim, YLD, mkA, V.cells, Nat.reduceAdd, Nat.reduceSub, Nat.reduceMul, Nat.reduceLeDiff, loadA, cellsAt, nAg, packA, List.drop, List.take, List.head?, binA, unA, eqCells, eqCell, negB, fillA, storeA, Ob.with, indexedI, V.oneCell, intOf?, resA, resA1, packR, sealDepth, Int.reduceLT, Int.reduceLE, Int.reduceToNat, Int.reduceNeg, Int.reduceAdd, Int.reduceSub, Int.reduceMul, cond_true, cond_false, Int.reduceBNe, Int.reduceBEq, eq_self, deads, List.replicate, argsF, hbK, hC, c5, lvl, g1, lenA_view, iaddrS_v, j0, j1, hKo, fl, fa, le, lat, l64, t64, eq, Int.toNat_natCast, c239, s9, o9, fs, w4, hi1, hlt]
    exact ⟨by rw [gl, hKl'], gs _, fun p hp => by rw [gn _ p hp, hKk p hp]⟩
  · have e8 : i = st.L.length := by omega
    subst e8
    have g1 : decide ((st.L.length : Int) < (st.L.length : Int)) = false := decide_eq_false (by omega)
    have R2 : RAt K' r s e D := R1.keep fun p hp => hKk p (by rcases hp with rfl | rfl | rfl <;> omega)
    obtain ⟨H2, c42, h2, k2, r2⟩ := @rwrite_spec N n (by omega) (by omega) K' r s e D R2 st.n st.e st.a st.lv st.L (ok.l.rd K' [r, s]) (by omega)
    have D2 : DAt K' d so (D.wr st.n st.e st.a st.L) := d1.keep fun p hp => hKk p (by rcases hp with rfl | rfl <;> omega)
    have hlast := hT.next' (H1 := K') (by omega) (fun p hp a b => by rw [hKk p (by omega), k1 p (by omega) a b, hK10 p hp]) D2 (Nat.le_of_eq h2.symm) (fun p hp a b c => k2 p a b) r2 (mono_wr D _ _ _ _)
    simp +contextual -implicitDefEqProofs (maxSteps := 10000000) only [sxb, plainD, stays, ↓selV_wt, ↓selV_wf, ↓impB_wt, ↓impB_wf, ↓selV_nor, ↓impB_nor, ↓selV_nt, ↓selV_nf, ↓impB_nt, ↓impB_nf, ↓selV_true, ↓selV_false, ↓selV_and, ↓impB_true, ↓impB_false, ↓impB_and, ↓prim_pick, ↓selV_nn, ↓impB_nn, doOp, get, ins, del, dels, Nat.reduceLT, Nat.reduceEqDiff, ↓reduceIte, reduceCtorEq, ne_eq, implies_true, prim, YLD, mkA, V.cells, Nat.reduceAdd, Nat.reduceSub, Nat.reduceMul, Nat.reduceLeDiff, loadA, cellsAt, nAg, packA, List.drop, List.take, List.head?, binA, unA, eqCells, eqCell, negB, fillA, storeA, Ob.with, indexedI, V.oneCell, intOf?, resA, resA1, packR, sealDepth, Int.reduceLT, Int.reduceLE, Int.reduceToNat, Int.reduceNeg, Int.reduceAdd, Int.reduceSub, Int.reduceMul, cond_true, cond_false, Int.reduceBNe, Int.reduceBEq, eq_self, deads, List.replicate, argsF, hbK, hC, c5, c1, c2, c3, lvl, g1, c11, pm11, pm42, c42, beq_self_eq_true]
    exact hlast
set_option maxHeartbeats 4000000 in
theorem do_write_cons (hN : 1200000 ≤ N) (hn : 6 ≤ n) (hk : st.k = 1) (hL9 : st.L.length ≤ 1100000) (hcase : st.L ≠ []) : ∃ v H', callA am N n 16 [.ptr d 1 0, .ptr r 1 0, .agg st.cs] H = some (v, H') ∧ Stepped H H' d so r s e D v := by
  obtain ⟨n, rfl⟩ : ∃ m, n = m + 1 := ⟨n - 1, by omega⟩
  obtain ⟨K, hK⟩ : ∃ K : Heap, K = H ++ [⟨1, .var st.cs⟩, ⟨0, .dead⟩, ⟨0, .dead⟩] := ⟨_, rfl⟩
  obtain ⟨K1, hK1⟩ : ∃ K1 : Heap, K1 = H ++ [⟨1, .var st.cs⟩, ⟨2, .arr ((st.L ++ [sev]).flatten.map (V.int .u8))⟩, ⟨0, .dead⟩] := ⟨_, rfl⟩
  have hKl : K.length = H.length + 3 := by rw [hK]; simp
  have hK1l : K1.length = H.length + 3 := by rw [hK1]; simp
  have hsec := ok.l.2
  have D1 : DAt K1 d so D := by rw [hK1]; exact hT.da.app _
  have l1 := hT.da.lt
  obtain ⟨l2, l3, l4⟩ := hT.ra.lt
  have hoK : K1[H.length + 1]? = some ⟨2, .arr ((st.L ++ [sev]).flatten.map (V.int .u8))⟩ := by rw [hK1, app_get]; rfl
  have hM : ∀ v ∈ [sev], v.length = 64 := fun v hv => by rw [List.mem_singleton.1 hv]; rfl
  have hrd := @own_rd K1 [d, so] (H.length + 1) 2 st.L [sev] hoK hsec hM (by simp; omega)
  obtain ⟨H1, c22, h1, k1, d1⟩ := @write_spec N n (by omega) (by omega) K1 d so D D1 st.n st.e st.a _ st.L hrd
  have R1 : RAt H1 r s e D := by rw [hK1] at k1; exact hT.rkeep k1
  have hb : K[H.length]? = some ⟨1, .var st.cs⟩ := by rw [hK, app_get0]; rfl
  have hbK1 : K1[H.length]? = some ⟨1, .var st.cs⟩ := by rw [hK1, app_get0]; rfl
  have hb1 : H1[H.length]? = some ⟨1, .var st.cs⟩ := by rw [k1 _ (by omega) (by omega) (by omega), hbK1]
  have ho1 : H1[H.length + 1]? = some ⟨2, .arr ((ownS st.L 0).flatten.map (V.int .u8))⟩ := by rw [k1 _ (by omega) (by omega) (by omega), hoK]; rfl
  have c11 := fun x K => @num_spec N n (by omega) x K
  have c23 := fun K => @full_spec N n (by omega) (by omega) 7 (by simp) K
  have c239 := fun K => @full_spec N n (by omega) (by omega) 9 (by simp) K
  have hC := stp_len ok
  have co := stp_one ok
  have cc : (V.agg st.cs).cells = st.cs := rfl
  have c0 : List.take 1 st.cs = [.int .i64 st.k] := rfl
  have c1 : List.take 1 (List.drop 1 st.cs) = [.int .i64 st.n] := rfl
  have c2 : List.take 1 (List.drop 2 st.cs) = [.int .i64 st.a] := rfl
  have c3 : List.take 1 (List.drop 3 st.cs) = [.int .i64 st.e] := rfl
  have c5 : List.take 1 (List.drop 5 st.cs) = [st.lv] := rfl
  rw [hk] at c0
  have lv0 := ok.l.rd K []
  have lvl := lv0.len
  have lvn := lv0.nstr
  have lvat : ∀ i, (hi : i < st.L.length) → iaddrSA 64 st.lv (.int .i64 (i : Nat)) = some (.ret (.iptr (st.L[i].map (V.int .u8)) 0)) := fun i hi => by
    rcases ok.l.1 with ⟨h, -⟩ | ⟨c, h⟩
    · rw [h] at hi; simp at hi
    · rw [h]; exact sl_at hi c
  have fl0 : ((ownS st.L 0).flatten.map (V.int .u8)).length = (st.L.length + 1) * 64 := by rw [List.length_map, flat_len (ownS_sec hsec 0), ownS_len (Nat.zero_le _)]
  have slh := @slice_head64 K1 (H.length + 1) 2 st.L.length _ hoK fl0
  have s7 : (sev.map (V.int .u8)).length = 64 := rfl
  have o7 := ints_one .u8 sev
  have t7 : List.take 64 (sev.map (V.int .u8)) = sev.map (V.int .u8) := rfl
  have s9 : (nin.map (V.int .u8)).length = 64 := rfl
  have o9 := ints_one .u8 nin
  have fa0 : List.take 64 (List.drop (st.L.length * 64) ((ownS st.L 0).flatten.map (V.int .u8))) = sev.map (V.int .u8) := by
    rw [flat_at (ownS_sec hsec 0) (by rw [ownS_len (Nat.zero_le _)]; omega), ownS_last]
  have le0 : st.L.length * 64 + 64 ≤ (st.L.length + 1) * 64 := by omega
  have i0 : (0 : Int) ≤ (st.L.length : Int) := by omega
  have i1 : (st.L.length : Int) < ((st.L.length + 1 : Nat) : Int) := by omega
  have eq7 := @eqCells_ints .u8 64 sev sev rfl rfl
  simp only [List.replicate, decide_true] at eq7
  have csev : secV (List.replicate 64 7) = .agg (sev.map (V.int .u8)) := rfl
  have cnin : secV (List.replicate 64 9) = .agg (nin.map (V.int .u8)) := rfl
  rw [csev] at c23
  rw [cnin] at c239
  have hl0 : st.L.length ≠ 0 := fun h => hcase (List.eq_nil_of_length_eq_zero h)
  obtain ⟨c, hlv⟩ : ∃ c, st.lv = .sl (st.L.map secV) 64 c := by
    rcases ok.l.1 with ⟨h, -⟩ | h
    · exact absurd h hcase
    · exact h
  have ff : ∀ M : List (List Int), (M.map secV).flatMap V.cells = M.flatten.map (V.int .u8) := fun M => by
    induction M with
    | nil => rfl
    | cons x M ih => rw [List.map_cons, List.flatMap_cons, ih, List.flatten_cons, List.map_append]; rfl
  have fx : ∀ get : Nat → Option Ob, firstA get 64 st.L.length st.lv = some (st.L.flatten.map (V.int .u8)) := fun get => by
    rw [hlv]
    have := firstA_sl (get := get) (L := st.L.map secV) (s := 64) (c := c)
    rw [List.length_map, ff] at this
    exact this
  have oL := ints_one .u8 st.L.flatten
  obtain ⟨Ka, hKa⟩ : ∃ Ka : Heap, Ka = H ++ [⟨1, .var st.cs⟩, ⟨1, .arr (st.L.flatten.map (V.int .u8))⟩, ⟨0, .dead⟩] := ⟨_, rfl⟩
  have a1 : appendA (fun o => K[o]?) (H.length + 1) 64 64 .nils st.lv = some (.set (H.length + 1) ⟨1, .arr (st.L.flatten.map (V.int .u8))⟩ (.view (H.length + 1) 1 0 st.L.length 64 none)) :=
    app_new (x := ⟨0, .dead⟩) (by rw [hK, app_get]; rfl) lvl (fx _) oL hl0 (by unfold maxBytes; omega)
  have sKa : K.set (H.length + 1) ⟨1, .arr (st.L.flatten.map (V.int .u8))⟩ = Ka := by rw [hK, app_set, hKa]; rfl
  have e1 : (st.L ++ [sev]).flatten.map (V.int .u8) = st.L.flatten.map (V.int .u8) ++ sev.map (V.int .u8) := by simp
  have a2 : appendA (fun o => Ka[o]?) (H.length + 2) 64 64 (.view (H.length + 1) 1 0 st.L.length 64 none) (.sl [.agg (sev.map (V.int .u8))] 64 (some 1)) = some (.set (H.length + 1) ⟨2, .arr ((st.L ++ [sev]).flatten.map (V.int .u8))⟩ (.view (H.length + 1) 2 0 (st.L.length + 1) 64 none)) := by
    rw [e1]
    exact app_more (by rw [hKa, app_get]; rfl) rfl rfl o7 (by decide) (by rw [List.length_map, flat_len hsec]) (by unfold maxBytes; omega)
  have sK : Ka.set (H.length + 1) ⟨2, .arr ((st.L ++ [sev]).flatten.map (V.int .u8))⟩ = K1 := by rw [hKa, app_set, hK1]; rfl
  have sf7 : fillA [V.int .u8 0, V.int .u8 0, V.int .u8 0, V.int .u8 0, V.int .u8 0, V.int .u8 0, V.int .u8 0, V.int .u8 0, V.int .u8 0, V.int .u8 0, V.int .u8 0, V.int .u8 0, V.int .u8 0, V.int .u8 0, V.int .u8 0, V.int .u8 0, V.int .u8 0, V.int .u8 0, V.int .u8 0, V.int .u8 0, V.int .u8 0, V.int .u8 0, V.int .u8 0, V.int .u8 0, V.int .u8 0, V.int .u8 0, V.int .u8 0, V.int .u8 0, V.int .u8 0, V.int .u8 0, V.int .u8 0, V.int .u8 0, V.int .u8 0, V.int .u8 0, V.int .u8 0, V.int .u8 0, V.int .u8 0, V.int .u8 0, V.int .u8 0, V.int .u8 0, V.int .u8 0, V.int .u8 0, V.int .u8 0, V.int .u8 0, V.int .u8 0, V.int .u8 0, V.int .u8 0, V.int .u8 0, V.int .u8 0, V.int .u8 0, V.int .u8 0, V.int .u8 0, V.int .u8 0, V.int .u8 0, V.int .u8 0, V.int .u8 0, V.int .u8 0, V.int .u8 0, V.int .u8 0, V.int .u8 0, V.int .u8 0, V.int .u8 0, V.int .u8 0, V.int .u8 0] [(0, 64, V.agg (sev.map (V.int .u8)))] = some (sev.map (V.int .u8)) := by
    simp only [fillA, V.cells]
    rfl
  have wS : wrapV (sev.map (V.int .u8)) = .agg (sev.map (V.int .u8)) := rfl
  have hK10 : ∀ p, p < H.length → K1[p]? = H[p]? := fun p hp => by rw [hK1, List.getElem?_append_left hp]
  suffices Hs : ∃ v H', callA am N (n + 1) 16 [.ptr d 1 0, .ptr r 1 0, .agg st.cs] H = some (v, H') ∧ Stepped H H' d so r s e D v by exact Hs
  refine call_keep at16 rfl rfl (by decide) (sx_wp ?_)
  have hK' := hK
  have hK1' := hK1
  generalize hCC : st.cs = C at *
  generalize hs7 : sev.map (V.int .u8) = S7 at *
  simp +contextual -implicitDefEqProofs (maxSteps := 10000000) only [sxb, plainD, stays, ↓selV_wt, ↓selV_wf, ↓impB_wt, ↓impB_wf, ↓selV_nor, ↓impB_nor, ↓selV_nt, ↓selV_nf, ↓impB_nt, ↓impB_nf, ↓selV_true, ↓selV_false, ↓selV_and, ↓impB_true, ↓impB_false, ↓impB_and, ↓prim_pick, ↓selV_nn, ↓impB_nn, doOp, get, ins, del, dels, Nat.reduceLT, Nat.reduceEqDiff, ↓reduceIte, reduceCtorEq, ne_eq, implies_true, prim, YLD, mkA, V.cells, Nat.reduceAdd, Nat.reduceSub, Nat.reduceMul, Nat.reduceLeDiff, loadA, cellsAt, nAg, packA, List.drop, List.take, List.head?, binA, unA, eqCells, eqCell, negB, fillA, storeA, Ob.with, indexedI, V.oneCell, intOf?, resA, resA1, packR, sealDepth, Int.reduceLT, Int.reduceLE, Int.reduceToNat, Int.reduceNeg, Int.reduceAdd, Int.reduceSub, Int.reduceMul, cond_true, cond_false, Int.reduceBNe, Int.reduceBEq, eq_self, deads, List.replicate, argsF, am16, isNil, app_get0, app_get, app_set0, app_set, cc, co, mkA, hb, hC, c0, c5, a1, a2, sKa, sK, c23, c1, c2, c3, lvl, slh, c22, hb1, ho1, fl0, fa0, le0, lenA_view, iaddrS_v, i0, i1, Int.toNat_natCast, eq7, s7, o7, t7, wS, List.range, List.range.loop, ← hK', ← hK1', hbK1]
  refine sx_loop (fun i t K' => i ≤ st.L.length ∧ t = fr 275 [(0, .ptr d 1 0), (1, .ptr r 1 0), (5, .ptr H.length 1 0), (9, .view (H.length + 1) 2 0 (st.L.length + 1) 64 none), (10, .int .i64 (D.wrR st.n st.e st.a st.L)), (11, .bool true), (12, .int .i64 i)] ∧
    K'.length = H1.length ∧ K'[H.length + 1]? = some ⟨2, .arr ((ownS st.L i).flatten.map (V.int .u8))⟩ ∧ ∀ p, p ≠ H.length + 1 → K'[p]? = H1[p]?) st.L.length (by show st.L.length < N; omega) ⟨Nat.zero_le _, rfl, rfl, ho1, fun _ _ => rfl⟩ ?_
  clear hK' hK1' hK hK1 a1 a2 sKa hKa sK c22 c23 fa0 slh
  rintro i t K' hi ⟨hi', rfl, hKl', hKo, hKk⟩
  have hbK : K'[H.length]? = some ⟨1, .var C⟩ := by rw [hKk _ (by omega), hb1]
  by_cases hlt : i < st.L.length
  · have g1 : decide ((i : Int) < (st.L.length : Int)) = true := decide_eq_true (by omega)
    have w4 : IntKind.i64.wrap ((i : Int) + 1) = ((i + 1 : Nat) : Int) := (wrap64 (by omega) (by omega)).trans (by omega)
    have hi1 : i + 1 ≤ st.L.length := by omega
    have j0 : (0 : Int) ≤ (i : Int) := by omega
    have j1 : (i : Int) < ((st.L.length + 1 : Nat) : Int) := by omega
    have hv := hsec st.L[i] (List.getElem_mem hlt)
    have lat := lvat i hlt
    have fl : ((ownS st.L i).flatten.map (V.int .u8)).length = (st.L.length + 1) * 64 := by rw [List.length_map, flat_len (ownS_sec hsec i), ownS_len hi']
    have fa : List.take 64 (List.drop (i * 64) ((ownS st.L i).flatten.map (V.int .u8))) = st.L[i].map (V.int .u8) := by
      rw [flat_at (ownS_sec hsec i) (by rw [ownS_len hi']; omega), ownS_at hlt]
    have fs := @flat_set (ownS st.L i) i nin (ownS_sec hsec i) rfl (by rw [ownS_len hi']; omega)
    rw [ownS_set hlt] at fs
    have le : i * 64 + 64 ≤ (st.L.length + 1) * 64 := by omega
    have eq := @eqCells_ints .u8 64 _ _ hv hv
    simp only [List.replicate, decide_true] at eq
    have l64 : (st.L[i].map (V.int .u8)).length = 64 := by simp [hv]
    have t64 : List.take 64 (st.L[i].map (V.int .u8)) = st.L[i].map (V.int .u8) := List.take_of_length_le (by omega)
    have gs : ∀ z : Ob, (K'.set (H.length + 1) z)[H.length + 1]? = some z := fun z => List.getElem?_set_self (lt_of_get hKo)
    have gn : ∀ (z : Ob) (p : Nat), p ≠ H.length + 1 → (K'.set (H.length + 1) z)[p]? = K'[p]? := fun z p hp => List.getElem?_set_ne (Ne.symm hp)
    have gl : ∀ z : Ob, (K'.set (H.length + 1) z).length = K'.length := fun z => List.length_set
    simp +contextual -implicitDefEqProofs (maxSteps := 10000000) only [sxb, plainD, stays, ↓selV_wt, ↓selV_wf, ↓impB_wt, ↓impB_wf, ↓selV_nor, ↓impB_nor, ↓selV_nt, ↓selV_nf, ↓impB_nt, ↓impB_nf, ↓selV_true, ↓selV_false, ↓selV_and, ↓impB_true, ↓impB_false, ↓impB_and, ↓prim_pick, ↓selV_nn, ↓impB_nn, doOp, get, ins, del, dels, Nat.reduceLT, Nat.reduceEqDiff, ↓reduceIte, reduceCtorEq, ne_eq, implies_true, prim, YLD, mkA, V.cells, Nat.reduceAdd, Nat.reduceSub, Nat.reduceMul, Nat.reduceLeDiff, loadA, cellsAt, nAg, packA, List.drop, List.take, List.head?, binA, unA, eqCells, eqCell, negB, fillA, storeA, Ob.with, indexedI, V.oneCell, intOf?, resA, resA1, packR, sealDepth, Int.reduceLT, Int.reduceLE, Int.reduceToNat, Int.reduceNeg, Int.reduceAdd, Int.reduceSub, Int.reduceMul, cond_true, cond_false, Int.reduceBNe, Int.reduceBEq, eq_self, deads, List.replicate, argsF, hbK, hC, c5, lvl, g1, lenA_view, iaddrS_v, j0, j1, hKo, fl, fa, le, lat, l64, t64, eq, Int.toNat_natCast, c239, s9, o9, fs, w4, hi1, hlt]
    exact ⟨by rw [gl, hKl'], gs _, fun p hp => by rw [gn _ p hp, hKk p hp]⟩
  · have e8 : i = st.L.length := by omega
    subst e8
    have g1 : decide ((st.L.length : Int) < (st.L.length : Int)) = false := decide_eq_false (by omega)
    have R2 : RAt K' r s e D := R1.keep fun p hp => hKk p (by rcases hp with rfl | rfl | rfl <;> omega)
    obtain ⟨H2, c42, h2, k2, r2⟩ := @rwrite_spec N n (by omega) (by omega) K' r s e D R2 st.n st.e st.a st.lv st.L (ok.l.rd K' [r, s]) (by omega)
    have D2 : DAt K' d so (D.wr st.n st.e st.a st.L) := d1.keep fun p hp => hKk p (by rcases hp with rfl | rfl <;> omega)
    have hlast := hT.next' (H1 := K') (by omega) (fun p hp a b => by rw [hKk p (by omega), k1 p (by omega) a b, hK10 p hp]) D2 (Nat.le_of_eq h2.symm) (fun p hp a b c => k2 p a b) r2 (mono_wr D _ _ _ _)
    simp +contextual -implicitDefEqProofs (maxSteps := 10000000) only [sxb, plainD, stays, ↓selV_wt, ↓selV_wf, ↓impB_wt, ↓impB_wf, ↓selV_nor, ↓impB_nor, ↓selV_nt, ↓selV_nf, ↓impB_nt, ↓impB_nf, ↓selV_true, ↓selV_false, ↓selV_and, ↓impB_true, ↓impB_false, ↓impB_and, ↓prim_pick, ↓selV_nn, ↓impB_nn, doOp, get, ins, del, dels, Nat.reduceLT, Nat.reduceEqDiff, ↓reduceIte, reduceCtorEq, ne_eq, implies_true, prim, YLD, mkA, V.cells, Nat.reduceAdd, Nat.reduceSub, Nat.reduceMul, Nat.reduceLeDiff, loadA, cellsAt, nAg, packA, List.drop, List.take, List.head?, binA, unA, eqCells, eqCell, negB, fillA, storeA, Ob.with, indexedI, V.oneCell, intOf?, resA, resA1, packR, sealDepth, Int.reduceLT, Int.reduceLE, Int.reduceToNat, Int.reduceNeg, Int.reduceAdd, Int.reduceSub, Int.reduceMul, cond_true, cond_false, Int.reduceBNe, Int.reduceBEq, eq_self, deads, List.replicate, argsF, hbK, hC, c5, c1, c2, c3, lvl, g1, c11, pm11, pm42, c42, beq_self_eq_true]
    exact hlast
end
end Go.Am.T


set_option linter.unusedVariables false
set_option linter.unusedSimpArgs false
set_option maxRecDepth 10000
namespace Go.Am.T
attribute [local congr] selV_congr impB_congr
attribute [local irreducible] sx wp
def five : List Int := List.replicate 64 5
section
variable {N n : Nat} {H : Heap} {d so r s e : Nat} {D : Dv} (hT : Two H d so r s e D) {st : Stp} (ok : st.Ok)
include hT ok
set_option maxHeartbeats 2000000 in
theorem do_copy (hN : 10000 ≤ N) (hn : 6 ≤ n) (hk : st.k = 7) : ∃ v H', callA am N n 16 [.ptr d 1 0, .ptr r 1 0, .agg st.cs] H = some (v, H') ∧ Stepped H H' d so r s e D v := by
  obtain ⟨n, rfl⟩ : ∃ m, n = m + 1 := ⟨n - 1, by omega⟩
  obtain ⟨K, hK⟩ : ∃ K : Heap, K = H ++ [⟨1, .var st.cs⟩, ⟨0, .dead⟩, ⟨0, .dead⟩] := ⟨_, rfl⟩
  have hKl : K.length = H.length + 3 := by rw [hK]; simp
  have hK0 : ∀ p, p < H.length → K[p]? = H[p]? := fun p hp => by rw [hK, List.getElem?_append_left hp]
  obtain ⟨m1, m2⟩ := hT.da.lt
  obtain ⟨m3, m4, m5⟩ := hT.ra.lt
  have D0 : DAt K d so D := by rw [hK]; exact hT.da.app _
  have okD := D0.ok
  obtain ⟨L1, c21, hL1, dc⟩ := @copy_spec N n (by omega) K d so D D0
  have hl1 : (K ++ L1).length = H.length + 5 := by rw [List.length_append, hL1, hKl]
  have D1 : DAt (K ++ L1) d so D := D0.app _
  have c17 := @same_spec N n (by omega) (by omega) (K ++ L1) _ _ D D dc.looks D1.looks
  have hs : sameB D D = true := by simp [sameB]
  rw [hs] at c17
  obtain ⟨H2, c27, h2, k2, d2⟩ := @up_spec N n (by omega) (K ++ L1) d so D D1 0
  have R2 : RAt H2 r s e D := (hT.ra.app _).keep (H := H ++ ([⟨1, .var st.cs⟩, ⟨0, .dead⟩, ⟨0, .dead⟩] ++ L1)) fun p hp => by
    have e1 : K ++ L1 = H ++ ([⟨1, .var st.cs⟩, ⟨0, .dead⟩, ⟨0, .dead⟩] ++ L1) := by rw [hK, List.append_assoc]
    rw [← e1]
    have a1 := hT.nrd
    have a2 := hT.nsd
    have a3 := hT.ned
    exact k2 p (by rcases hp with rfl | rfl | rfl <;> omega) (by rcases hp with rfl | rfl | rfl <;> assumption)
  obtain ⟨ver, cap, ver', cap', hr, -, he⟩ := R2.ob
  have e2 : D.rcs (.view s ver 0 D.S.length 64 cap) (.view e ver' 0 D.n 1 cap') = [.view s ver 0 D.S.length 64 cap, .view e ver' 0 D.n 1 cap', .int .i64 D.rl, .bool D.lost, .int .i64 D.done] := rfl
  rw [e2] at hr
  have n1 := okD.n1
  have lE := (List.length_map (f := V.int .i64) (as := D.eps)).trans (eps_len okD)
  have tE : List.take 1 (D.eps.map (V.int .i64)) = [.int .i64 (D.ep 0)] := by
    have h3 := eps_at okD (i := 0) (by omega)
    have hlt : 0 < D.eps.length := by rw [eps_len okD]; omega
    rw [List.getElem?_eq_getElem hlt] at h3
    have : D.eps.map (V.int .i64) = List.drop 0 (D.eps.map (V.int .i64)) := rfl
    rw [this, ← List.map_drop, List.drop_eq_getElem_cons hlt, Option.some.inj h3]; rfl
  have nn : (0 : Int) < (D.n : Int) := by omega
  have hrd5 : SRo [five] (.sl [V.agg (five.map (V.int .u8))] 64 (some 1)) := ⟨.inr ⟨some 1, rfl⟩, fun v hv => by rw [List.mem_singleton.1 hv]; rfl⟩
  obtain ⟨H3, c22, h3, k3, d3⟩ := @write_spec N n (by omega) (by omega) H2 d so _ d2 0 (IntKind.i64.wrap (D.ep 0 + 1)) 0 _ _ (hrd5.rd H2 [d, so])
  obtain ⟨H4, c20, h4, k4, d4⟩ := @whole_spec N n (by omega) H3 d so _ d3
  have keep : ∀ p, p < H.length + 5 → p ≠ d → p ≠ so → H4[p]? = (K ++ L1)[p]? := fun p hp a b => by
    rw [k4 p a, k3 p (by omega) a b, k2 p (by omega) a]
  have c23 := fun K => @full_spec N n (by omega) (by omega) 5 (by simp) K
  have cfive : secV (List.replicate 64 5) = .agg (five.map (V.int .u8)) := rfl
  rw [cfive] at c23
  have sf5 : fillA [V.int .u8 0, V.int .u8 0, V.int .u8 0, V.int .u8 0, V.int .u8 0, V.int .u8 0, V.int .u8 0, V.int .u8 0, V.int .u8 0, V.int .u8 0, V.int .u8 0, V.int .u8 0, V.int .u8 0, V.int .u8 0, V.int .u8 0, V.int .u8 0, V.int .u8 0, V.int .u8 0, V.int .u8 0, V.int .u8 0, V.int .u8 0, V.int .u8 0, V.int .u8 0, V.int .u8 0, V.int .u8 0, V.int .u8 0, V.int .u8 0, V.int .u8 0, V.int .u8 0, V.int .u8 0, V.int .u8 0, V.int .u8 0, V.int .u8 0, V.int .u8 0, V.int .u8 0, V.int .u8 0, V.int .u8 0, V.int .u8 0, V.int .u8 0, V.int .u8 0, V.int .u8 0, V.int .u8 0, V.int .u8 0, V.int .u8 0, V.int .u8 0, V.int .u8 0, V.int .u8 0, V.int .u8 0, V.int .u8 0, V.int .u8 0, V.int .u8 0, V.int .u8 0, V.int .u8 0, V.int .u8 0, V.int .u8 0, V.int .u8 0, V.int .u8 0, V.int .u8 0, V.int .u8 0, V.int .u8 0, V.int .u8 0, V.int .u8 0, V.int .u8 0, V.int .u8 0] [(0, 64, V.agg (five.map (V.int .u8)))] = some (five.map (V.int .u8)) := by
    simp only [fillA, V.cells]
    rfl
  have s5 : (five.map (V.int .u8)).length = 64 := rfl
  have o5 := ints_one .u8 five
  have t5 : List.take 64 (five.map (V.int .u8)) = five.map (V.int .u8) := rfl
  have wS : wrapV (five.map (V.int .u8)) = .agg (five.map (V.int .u8)) := rfl
  have hb : K[H.length]? = some ⟨1, .var st.cs⟩ := by rw [hK, app_get0]; rfl
  have hC := stp_len ok
  have co := stp_one ok
  have cc : (V.agg st.cs).cells = st.cs := rfl
  have c0 : List.take 1 st.cs = [.int .i64 st.k] := rfl
  rw [hk] at c0
  have hfin : Stepped H H4 d so r s e D (.tup [.ptr K.length 1 0, .ptr r 1 0, .bool true]) := by
    have hlt : ∀ p, p < H.length → p ≠ d → p ≠ so → H4[p]? = H[p]? := fun p hp a b => by
      rw [keep p (by omega) a b, List.getElem?_append_left (by omega), hK0 p hp]
    refine ⟨K.length, K.length + 1, r, s, e, D, rfl, ⟨dc.keep fun p hp => keep p (by rcases hp with rfl | rfl <;> omega) (by rcases hp with rfl | rfl <;> omega) (by rcases hp with rfl | rfl <;> omega), ?_, by omega, by omega, by omega, by omega, by omega, by omega⟩, Mono.refl D, by omega, fun p hp a b _ _ _ => hlt p hp a b, fun q hq => ?_⟩
    · refine hT.ra.keep fun p hp => ?_
      have a1 := hT.nrd
      have a2 := hT.nsd
      have a3 := hT.ned
      have b1 := hT.nro
      have b2 := hT.nso
      have b3 := hT.neo
      exact hlt p (by rcases hp with rfl | rfl | rfl <;> assumption) (by rcases hp with rfl | rfl | rfl <;> assumption) (by rcases hp with rfl | rfl | rfl <;> assumption)
    · simp only [List.mem_cons, List.not_mem_nil, or_false] at hq ⊢
      rcases hq with rfl | rfl | rfl | rfl | rfl
      · right; omega
      · right; omega
      · left; simp
      · left; simp
      · left; simp
  refine ⟨_, H4, ?_, hfin⟩
  clear hfin keep d2 d3 d4 dc D0 D1 R2 k2 k3 k4
  refine call_keep_eq at16 rfl rfl (by decide) (sx_wp ?_)
  generalize st.cs = C at *
  generalize five.map (V.int .u8) = S5 at *
  generalize D.eps.map (V.int .i64) = EE at *
  simp +contextual -implicitDefEqProofs (maxSteps := 10000000) only [sxb, plainD, stays, ↓selV_wt, ↓selV_wf, ↓impB_wt, ↓impB_wf, ↓selV_nor, ↓impB_nor, ↓selV_nt, ↓selV_nf, ↓impB_nt, ↓impB_nf, ↓selV_true, ↓selV_false, ↓selV_and, ↓impB_true, ↓impB_false, ↓impB_and, ↓prim_pick, ↓selV_nn, ↓impB_nn, doOp, get, ins, del, dels, Nat.reduceLT, Nat.reduceEqDiff, ↓reduceIte, reduceCtorEq, ne_eq, implies_true, prim, YLD, mkA, V.cells, Nat.reduceAdd, Nat.reduceSub, Nat.reduceMul, Nat.reduceLeDiff, loadA, cellsAt, nAg, packA, List.drop, List.take, List.head?, binA, unA, eqCells, eqCell, negB, fillA, storeA, Ob.with, indexedI, V.oneCell, intOf?, resA, resA1, packR, sealDepth, Int.reduceLT, Int.reduceLE, Int.reduceToNat, Int.reduceNeg, Int.reduceAdd, Int.reduceSub, Int.reduceMul, cond_true, cond_false, Int.reduceBNe, Int.reduceBEq, eq_self, deads, List.replicate, argsF, am16, isNil, app_get0, app_get, app_set0, app_set, cc, co, mkA, ← hK, hb, hC, c0, c21, c17, pm17, c27, hr, he, iaddrS_v, nn, lE, n1, tE, Int.toNat_zero, c23, sf5, s5, o5, t5, wS, List.range, List.range.loop, c22, c20]
end
end Go.Am.T


set_option linter.unusedVariables false
set_option linter.unusedSimpArgs false
set_option maxRecDepth 10000
namespace Go.Am.T
attribute [local congr] selV_congr impB_congr
attribute [local irreducible] sx wp
theorem frame_new {N n : Nat} {f : FuncId} {args : List V} {v : V} {K : Heap} {R : List Nat} {P : Heap → Prop} (hm : pureOf am f = .keep) (hR : reachC K (V.objsL args) = R) (hcl : ∀ o ∈ R, ∀ y, K[o]? = some y → (∀ i ∈ y.bd.objs, i ∈ R) ∧ y.bd.plainBd = true)
    (hc : ∃ H', callA am N n f args (keepOnly R K) = some (v, H') ∧ (∀ p, p < K.length → H'[p]? = (keepOnly R K)[p]?) ∧ P H') (fb : Nat) (hy : f ≠ YLD := by decide) :
    ∃ H', ({ pureF := pureOf am, call := callA am N n, N := N, fb := fb } : Env).framed.call f args K = some (v, H') ∧ K.length ≤ H'.length ∧ (∀ p, p < K.length → H'[p]? = K[p]?) ∧ ∃ h1, P h1 ∧ ∀ p, K.length ≤ p → H'[p]? = h1[p]? := by
  obtain ⟨h1, hc, hk, hP⟩ := hc
  obtain ⟨e1, e2⟩ := frame_all clean_am hm (.inl rfl) (args := args) hR hcl hc hy
  refine ⟨_, e1, by rw [mergeH_length]; exact e2, fun p hp => ?_, h1, hP, fun p hp => merge_in (.inr hp)⟩
  by_cases hpR : p ∈ R
  · rw [merge_in (.inl hpR), hk p hp, keepOnly_in hpR]
  · exact merge_out hpR hp e2
theorem flat_closed {K : Heap} {R : List Nat} (h : ∀ o ∈ R, ∃ v k, ∃ l : List Int, K[o]? = some ⟨v, .arr (l.map (V.int k))⟩) : (∀ o ∈ R, ∀ y, K[o]? = some y → (∀ i ∈ y.bd.objs, i ∈ R) ∧ y.bd.plainBd = true) ∧ reachC K R = R := by
  have hcl : ∀ o ∈ R, ∀ y, K[o]? = some y → (∀ i ∈ y.bd.objs, i ∈ R) ∧ y.bd.plainBd = true := fun o ho y hy => by
    obtain ⟨v, k, l, e⟩ := h o ho
    rw [e] at hy
    cases hy
    refine ⟨fun i hi => ?_, rfl⟩
    have hi' : i ∈ V.objsL (l.map (V.int k)) := hi
    rw [ints_objs] at hi'
    cases hi'
  exact ⟨hcl, reachC_own fun o ho y hy => (hcl o ho y hy).1⟩
theorem dv_ofOk {D : Dv} (h : D.Ok) : ofOk D.S.flatten D.eps = true := by
  have h1 := flat_len h.sec
  have h2 := h.s1
  have h3 := h.s4
  have h4 := h.n1
  have h5 := h.n8
  have h6 := eps_len h
  have hm : D.S.flatten.length % 64 = 0 := by omega
  have hd : D.S.flatten.length / 64 = D.S.length := by omega
  have hb : D.eps.any badE = false := by
    rw [Bool.eq_false_iff]
    intro hc
    obtain ⟨x, hx, hb⟩ := List.any_eq_true.1 hc
    have := h.eb x (List.mem_of_mem_take hx)
    simp only [badE, Bool.or_eq_true, decide_eq_true_eq] at hb
    omega
  have hn : newOk ((D.S.flatten.length / 64 : Nat) : Int) (D.eps.length : Int) = true := by
    rw [hd, h6]
    simp only [newOk, Bool.not_eq_true', Bool.or_eq_false_iff, decide_eq_false_iff_not]
    omega
  rw [ofOk, hm, hn, hb]; rfl
theorem dv_of_mono {D : Dv} (h : D.Ok) : Mono D (ofD D.S.flatten D.eps) := by
  have h1 := flat_len h.sec
  refine ⟨eps_len h, ?_, fun i => ?_⟩
  · show (chunks D.S.flatten).length = D.S.length
    simp only [chunks, List.length_map, List.length_range]
    omega
  · show D.E.getD i.toNat 0 ≤ (D.eps ++ List.replicate (8 - D.eps.length) 0).getD i.toNat 0
    have hl := eps_len h
    by_cases hi : i.toNat < D.n
    · have := eps_at h hi
      rw [List.getD_eq_getElem?_getD (l := D.eps ++ _), List.getElem?_append_left (by omega), this]
      exact Int.le_refl _
    · rw [h.z _ (by omega), List.getD_eq_getElem?_getD, List.getElem?_append_right (by omega), List.getElem?_replicate]
      split <;> simp
section
variable {N n : Nat} {H : Heap} {d so r s e : Nat} {D : Dv} (hT : Two H d so r s e D) {st : Stp} (ok : st.Ok)
include hT ok
set_option maxHeartbeats 4000000 in
theorem do_of (hN : 300001 ≤ N) (hn : 8 ≤ n) (hk : st.k = 8) : ∃ v H', callA am N n 16 [.ptr d 1 0, .ptr r 1 0, .agg st.cs] H = some (v, H') ∧ Stepped H H' d so r s e D v := by
  obtain ⟨n, rfl⟩ : ∃ m, n = m + 1 := ⟨n - 1, by omega⟩
  obtain ⟨K, hK⟩ : ∃ K : Heap, K = H ++ [⟨1, .var st.cs⟩, ⟨0, .dead⟩, ⟨0, .dead⟩] := ⟨_, rfl⟩
  have hKl : K.length = H.length + 3 := by rw [hK]; simp
  have hK0 : ∀ p, p < H.length → K[p]? = H[p]? := fun p hp => by rw [hK, List.getElem?_append_left hp]
  obtain ⟨m1, m2⟩ := hT.da.lt
  obtain ⟨m3, m4, m5⟩ := hT.ra.lt
  have D1 : DAt K d so D := by rw [hK]; exact hT.da.app _
  have okD := D1.ok
  have hfl := flat_len okD.sec
  have s4 := okD.s4
  have hle : D.S.flatten.length ≤ 300000 := by omega
  have hel := eps_len okD
  have n8 := okD.n8
  have hof := dv_ofOk okD
  -- the program's bytes
  obtain ⟨H1, W1, c35, l1, k1, o1, v1, ho1, rfl, q1⟩ := frame_bytes pm35 D1.reach D1.closed (@bytes_spec N n (by omega) (by omega) _ _ _ _ D1.only) H.length
  have R1 : RAt H1 r s e D := by rw [hK] at k1; exact hT.rkeep (fun p hp _ _ => k1 p hp)
  obtain ⟨ver, cap, ver', cap', hr1, -, he1⟩ := R1.ob
  have e2 : D.rcs (.view s ver 0 D.S.length 64 cap) (.view e ver' 0 D.n 1 cap') = [.view s ver 0 D.S.length 64 cap, .view e ver' 0 D.n 1 cap', .int .i64 D.rl, .bool D.lost, .int .i64 D.done] := rfl
  -- Of
  obtain ⟨f1, f2⟩ := @flat_closed H1 [o1, e] (fun o ho => by
    simp only [List.mem_cons, List.not_mem_nil, or_false] at ho
    rcases ho with rfl | rfl
    · exact ⟨v1, .u8, _, q1⟩
    · exact ⟨ver', .i64, _, he1⟩)
  obtain ⟨H2, c9, l2, k2, g2, hP2, hg2⟩ := @frame_new N n 9 [.view o1 v1 0 D.S.flatten.length 1 none, .view e ver' 0 D.n 1 cap'] (.tup [.ptr (H1.length + 1) 1 0, .int .i64 0]) H1 [o1, e] (fun h => DAt h (H1.length + 1) H1.length (ofD D.S.flatten D.eps)) pm9 f2 f1 (by
    obtain ⟨H', p1, p2, p3, p4⟩ := @of_spec N n (by omega) (by omega) (keepOnly [o1, e] H1) o1 v1 e ver' cap' D.S.flatten [] D.eps [] (by rw [keepOnly_in (by simp), List.append_nil]; exact q1) (by rw [keepOnly_in (by simp), List.append_nil]; exact he1) hle (by omega)
    rw [hof, hel, keepOnly_length] at p1
    rw [keepOnly_length] at p3 p4
    exact ⟨H', p1, p3, p4 hof⟩) H.length (by decide)
  have d2 : DAt H2 (H1.length + 1) H1.length (ofD D.S.flatten D.eps) := hP2.keep fun p hp => hg2 p (by rcases hp with rfl | rfl <;> omega)
  have R2 : RAt H2 r s e D := R1.keep fun p hp => k2 p (by rcases hp with rfl | rfl | rfl <;> omega)
  -- the document's bytes
  obtain ⟨H3, W3, c36, l3, k3, o3, v3, ho3, rfl, q3⟩ := frame_bytes pm36 R2.reach R2.closed (@rbytes_spec N n (by omega) (by omega) _ _ _ _ _ R2.only) H.length
  have R3 : RAt H3 r s e D := R2.keep fun p hp => k3 p (by rcases hp with rfl | rfl | rfl <;> omega)
  obtain ⟨wer, wap, wer', wap', hr3, -, he3⟩ := R3.ob
  have e3 : D.rcs (.view s wer 0 D.S.length 64 wap) (.view e wer' 0 D.n 1 wap') = [.view s wer 0 D.S.length 64 wap, .view e wer' 0 D.n 1 wap', .int .i64 D.rl, .bool D.lost, .int .i64 D.done] := rfl
  obtain ⟨f3, f4⟩ := @flat_closed H3 [o3, e] (fun o ho => by
    simp only [List.mem_cons, List.not_mem_nil, or_false] at ho
    rcases ho with rfl | rfl
    · exact ⟨v3, .u8, _, q3⟩
    · exact ⟨wer', .i64, _, he3⟩)
  obtain ⟨H4, c10, l4, k4, g4, hP4, hg4⟩ := @frame_new N n 10 [.view o3 v3 0 D.S.flatten.length 1 none, .view e wer' 0 D.n 1 wap'] (.ptr (H3.length + 2) 1 0) H3 [o3, e] (fun h => RAt h (H3.length + 2) H3.length (H3.length + 1) (ofD D.S.flatten D.eps)) pm10 f4 f3 (by
    have x1 : Rd (keepOnly [o3, e] H3) (.view o3 v3 0 D.S.flatten.length 1 none) .u8 D.S.flatten := Rd.of_view (X := []) (by rw [keepOnly_in (by simp), List.append_nil]; exact q3)
    have x2 : Rd (keepOnly [o3, e] H3) (.view e wer' 0 D.eps.length 1 wap') .i64 D.eps := Rd.of_view (X := []) (by rw [keepOnly_in (by simp), List.append_nil]; exact he3)
    obtain ⟨H', p1, p2, p3, p4⟩ := @rof_spec N n (by omega) (by omega) (keepOnly [o3, e] H3) _ _ D.S.flatten D.eps x1 x2 hle (by omega)
    rw [hof, hel, keepOnly_length] at p1
    rw [keepOnly_length] at p3 p4
    exact ⟨H', p1, p3, p4 hof⟩) H.length (by decide)
  have r4 : RAt H4 (H3.length + 2) H3.length (H3.length + 1) (ofD D.S.flatten D.eps) := hP4.keep fun p hp => hg4 p (by rcases hp with rfl | rfl | rfl <;> omega)
  have d4 : DAt H4 (H1.length + 1) H1.length (ofD D.S.flatten D.eps) := by
    obtain ⟨a, b⟩ := d2.lt
    exact d2.keep fun p hp => by rw [k4 p (by rcases hp with rfl | rfl <;> omega), k3 p (by rcases hp with rfl | rfl <;> omega)]
  have hlt2 := d2.lt
  have hfin : Stepped H H4 d so r s e D (.tup [.ptr (H1.length + 1) 1 0, .ptr (H3.length + 2) 1 0, .bool true]) := by
    refine ⟨H1.length + 1, H1.length, H3.length + 2, H3.length, H3.length + 1, ofD D.S.flatten D.eps, rfl, ⟨d4, r4, by omega, by omega, by omega, by omega, by omega, by omega⟩, dv_of_mono okD, by omega, fun p hp _ _ _ _ _ => ?_, fun q hq => ?_⟩
    · rw [k4 p (by omega), k3 p (by omega), k2 p (by omega), k1 p (by omega), hK0 p hp]
    · simp only [List.mem_cons, List.not_mem_nil, or_false] at hq
      right
      rcases hq with rfl | rfl | rfl | rfl | rfl <;> omega
  have sm : sameR [r, s, e] H2 H3 = true := sameR_of (fun o ho => k3 o (by
    simp only [List.mem_cons, List.not_mem_nil, or_false] at ho
    rcases ho with rfl | rfl | rfl <;> omega)) (fun o ho y hy => by
    obtain ⟨xv, xc, xv', xc', y1, y2, y3⟩ := R2.ob
    simp only [List.mem_cons, List.not_mem_nil, or_false] at ho
    rcases ho with rfl | rfl | rfl
    · rw [y1] at hy; cases hy; rfl
    · rw [y2] at hy; cases hy; rfl
    · rw [y3] at hy; cases hy; rfl)
  have tsm := fun (b : Bool) => @tagP_same b [r, s, e] [r] H2.length H2 H3 sm (by simp; omega)
  have hb : K[H.length]? = some ⟨1, .var st.cs⟩ := by rw [hK, app_get0]; rfl
  have c11 := fun x K => @num_spec N n (by omega) x K
  have hC := stp_len ok
  have co := stp_one ok
  have cc : (V.agg st.cs).cells = st.cs := rfl
  have c0 : List.take 1 st.cs = [.int .i64 st.k] := rfl
  rw [hk] at c0
  have nr1 : (d == r) = false := by have := hT.nrd; simp; omega
  have nr2 : (so == r) = false := by have := hT.nro; simp; omega
  have nr1' : (r == d) = false := by have := hT.nrd; simp; omega
  have nr2' : (r == so) = false := by have := hT.nro; simp; omega
  have lk : decide (r < K.length) = true := decide_eq_true (by omega)
  have dr := D1.reach
  have rr := R2.reach
  rw [e2] at hr1
  rw [e3] at hr3
  refine ⟨_, H4, ?_, hfin⟩
  clear hfin d2 d4 r4 R1 R2 R3 D1 k1 k2 k3 k4 hP2 hP4 hg2 hg4 e2 e3
  generalize D.S.flatten.length = FL at *
  refine call_keep_eq at16 rfl rfl (by decide) (sx_wp ?_)
  generalize st.cs = C at *
  simp +contextual -implicitDefEqProofs (maxSteps := 10000000) only [sxb, plainD, stays, ↓selV_wt, ↓selV_wf, ↓impB_wt, ↓impB_wf, ↓selV_nor, ↓impB_nor, ↓selV_nt, ↓selV_nf, ↓impB_nt, ↓impB_nf, ↓selV_true, ↓selV_false, ↓selV_and, ↓impB_true, ↓impB_false, ↓impB_and, ↓prim_pick, ↓selV_nn, ↓impB_nn, doOp, get, ins, del, dels, Nat.reduceLT, Nat.reduceEqDiff, ↓reduceIte, reduceCtorEq, ne_eq, implies_true, prim, YLD, mkA, V.cells, Nat.reduceAdd, Nat.reduceSub, Nat.reduceMul, Nat.reduceLeDiff, loadA, cellsAt, nAg, packA, List.drop, List.take, List.head?, binA, unA, eqCells, eqCell, negB, fillA, storeA, Ob.with, indexedI, V.oneCell, intOf?, resA, resA1, packR, sealDepth, Int.reduceLT, Int.reduceLE, Int.reduceToNat, Int.reduceNeg, Int.reduceAdd, Int.reduceSub, Int.reduceMul, cond_true, cond_false, Int.reduceBNe, Int.reduceBEq, eq_self, deads, List.replicate, argsF, am16, isNil, app_get0, app_get, app_set0, app_set, cc, co, mkA, ← hK, hb, hC, c0, sx_drawd, reachC_nil, wpd_nil, wpd_cons, wpd_gt, wpd_gf, wpd_gu, wdK_def, fpOf, fpV, fpCall, Fp.ok, okT_of, okT_rd_io, okT_rd_call, okT_rd_bar, tagP_io, tagP_bar, tagP_call, tagF, AOp.rds, disj, List.contains_cons, List.contains_nil, Nat.reduceBEq, List.all_append, V.objsL, V.objs,  List.getD_cons_zero, List.getD_cons_succ, List.append_nil, c35, c9, c36, c10, hr1, hr3, c11, pm11, pm35, pm36, pm9, pm10, tsm, nr1, nr2, nr1', nr2', lk, dr, rr, f2, f4, V.objsL, V.objs, beq_self_eq_true]
end
end Go.Am.T

