import Derived.Test.YtmaijpjjopechaaK3
import Derived.Calls
import Derived.Carry
import Derived.ChangeShapes
import Derived.KernelRfl
import Derived.OpenShut
set_option linter.unusedVariables false
set_option linter.unusedSimpArgs false
set_option maxRecDepth 10000
namespace Go.Am.T
attribute [local congr] selV_congr impB_congr
theorem clean_am : cleanP am = true := by kernel_rfl
theorem ints_objs (k : IntKind) : ∀ l : List Int, V.objsL (l.map (V.int k)) = []
  | [] => rfl
  | x :: l => by show [] ++ V.objsL (l.map (V.int k)) = []; rw [ints_objs k l]; rfl
theorem dv_objs {D : Dv} {X : V} : V.objsL (D.cs X) = X.objs := by
  have app : ∀ a b : List V, V.objsL (a ++ b) = V.objsL a ++ V.objsL b := by
    intro a
    induction a with
    | nil => intro b; rfl
    | cons x a ih =>
      intro b
      show x.objs ++ V.objsL (a ++ b) = (x.objs ++ V.objsL a) ++ V.objsL b
      rw [ih, List.append_assoc]
  show X.objs ++ V.objsL _ = _
  rw [app, ints_objs]
  simp [V.objsL, V.objs]
theorem DAt.closed {H : Heap} {d o : Nat} {D : Dv} (h : DAt H d o D) : ∀ p ∈ [d, o], ∀ y, H[p]? = some y → (∀ i ∈ y.bd.objs, i ∈ [d, o]) ∧ y.bd.plainBd = true := by
  obtain ⟨ver, cap, hd, ho⟩ := h.ob
  intro p hp y hy
  simp only [List.mem_cons, List.not_mem_nil, or_false] at hp
  rcases hp with rfl | rfl
  · rw [hd] at hy; cases hy
    refine ⟨fun i hi => ?_, rfl⟩
    have hi' : i ∈ V.objsL (D.cs (.view o ver 0 D.S.length 64 cap)) := hi
    rw [dv_objs] at hi'
    simp only [V.objs, List.mem_cons, List.not_mem_nil, or_false] at hi'
    simp [hi']
  · rw [ho] at hy; cases hy
    refine ⟨fun i hi => ?_, rfl⟩
    have hi' : i ∈ V.objsL (D.S.flatten.map (V.int .u8)) := hi
    rw [ints_objs] at hi'
    cases hi'
theorem reach_of {H : Heap} {l R : List Nat} (h1 : addNew l (l.flatMap (namedBy H)) = R) (hl : l ≠ []) (hcl : ∀ p ∈ R, ∀ y, H[p]? = some y → (∀ i ∈ y.bd.objs, i ∈ R) ∧ y.bd.plainBd = true) : reachC H l = R := by
  have e : reachC H l = reachN H 5 (addNew l (l.flatMap (namedBy H))) := by
    cases l with
    | nil => exact absurd rfl hl
    | cons a l => rfl
  rw [e, h1]
  exact reachN_closed H _ (fun o ho i hi => by
    unfold namedBy at hi
    split at hi
    · rename_i y hy; exact (hcl o ho y hy).1 i hi
    · cases hi) 5
theorem DAt.reach {H : Heap} {d o : Nat} {D : Dv} (h : DAt H d o D) : reachC H [d] = [d, o] := by
  refine reach_of ?_ (by simp) h.closed
  obtain ⟨ver, cap, hd, ho⟩ := h.ob
  have e1 : namedBy H d = [o] := by
    simp only [namedBy, hd]
    show V.objsL (D.cs (.view o ver 0 D.S.length 64 cap)) = [o]
    rw [dv_objs]; rfl
  have hne : o ≠ d := Ne.symm h.apart
  simp [e1, addNew, hne]
theorem RAt.closed {H : Heap} {r s e : Nat} {D : Dv} (h : RAt H r s e D) : ∀ p ∈ [r, s, e], ∀ y, H[p]? = some y → (∀ i ∈ y.bd.objs, i ∈ [r, s, e]) ∧ y.bd.plainBd = true := by
  obtain ⟨ver, cap, ver', cap', hr, hs, he⟩ := h.ob
  intro p hp y hy
  simp only [List.mem_cons, List.not_mem_nil, or_false] at hp
  rcases hp with rfl | rfl | rfl
  · rw [hr] at hy; cases hy
    refine ⟨fun i hi => ?_, rfl⟩
    have hi' : i ∈ [s, e] := hi
    simp only [List.mem_cons, List.not_mem_nil, or_false] at hi'
    rcases hi' with rfl | rfl <;> simp
  · rw [hs] at hy; cases hy
    refine ⟨fun i hi => ?_, rfl⟩
    have hi' : i ∈ V.objsL (D.S.flatten.map (V.int .u8)) := hi
    rw [ints_objs] at hi'
    cases hi'
  · rw [he] at hy; cases hy
    refine ⟨fun i hi => ?_, rfl⟩
    have hi' : i ∈ V.objsL (D.eps.map (V.int .i64)) := hi
    rw [ints_objs] at hi'
    cases hi'
theorem RAt.reach {H : Heap} {r s e : Nat} {D : Dv} (h : RAt H r s e D) : reachC H [r] = [r, s, e] := by
  refine reach_of ?_ (by simp) h.closed
  obtain ⟨ver, cap, ver', cap', hr, hs, he⟩ := h.ob
  have e1 : namedBy H r = [s, e] := by
    simp only [namedBy, hr]
    rfl
  have h1 := Ne.symm h.rs
  have h2 := Ne.symm h.re
  have h3 := Ne.symm h.se
  simp [e1, addNew, h1, h2, h3]
theorem frame_look {N n : Nat} {f : FuncId} {args : List V} {h : Heap} {v : V} {R : List Nat} (hm : pureOf am f = .look) (hR : reachC h (V.objsL args) = R)
    (hcl : ∀ o ∈ R, ∀ y, h[o]? = some y → (∀ i ∈ y.bd.objs, i ∈ R) ∧ y.bd.plainBd = true) (hc : callA am N n f args h = some (v, h)) (fb : Nat) (hy : f ≠ YLD := by decide) :
    ({ pureF := pureOf am, call := callA am N n, N := N, fb := fb } : Env).framed.call f args h = some (v, h) := by
  have hs : shutIn R h = true := by
    unfold shutIn
    rw [List.all_eq_true]
    intro o ho
    rw [List.all_eq_true]
    intro i hi
    unfold namedBy at hi
    split at hi
    · rename_i y hy'; simpa using (hcl o ho y hy').1 i hi
    · cases hi
  show frameC (pureOf am) (callA am N n) f args h = _
  unfold frameC
  rw [if_neg hy, hm]
  simp only [hR, hs, ↓reduceIte, hc]
theorem frame_bytes {N n : Nat} {f : FuncId} {a : Nat} {h : Heap} {R : List Nat} {L : List Int} (hm : pureOf am f = .keep) (hR : reachC h [a] = R)
    (hcl : ∀ o ∈ R, ∀ y, h[o]? = some y → (∀ i ∈ y.bd.objs, i ∈ R) ∧ y.bd.plainBd = true)
    (hc : ∃ H' W, callA am N n f [.ptr a 1 0] (keepOnly R h) = some (W, H') ∧ (keepOnly R h).length ≤ H'.length ∧ (∀ p, p < (keepOnly R h).length → H'[p]? = (keepOnly R h)[p]?) ∧ Byt H' (keepOnly R h).length W L) (fb : Nat) (hy : f ≠ YLD := by decide) :
    ∃ H' W, ({ pureF := pureOf am, call := callA am N n, N := N, fb := fb } : Env).framed.call f [.ptr a 1 0] h = some (W, H') ∧ h.length ≤ H'.length ∧ (∀ p, p < h.length → H'[p]? = h[p]?) ∧ Byt H' h.length W L := by
  obtain ⟨h1, W, hc, hl, hk, o, v, ho, rfl, hob⟩ := hc
  rw [keepOnly_length] at ho hk hl
  obtain ⟨e1, e2⟩ := frame_all clean_am hm (.inl rfl) (args := [.ptr a 1 0]) hR hcl hc hy
  refine ⟨_, _, e1, by rw [mergeH_length]; exact e2, fun p hp => ?_, o, v, ho, rfl, ?_⟩
  · by_cases hpR : p ∈ R
    · rw [merge_in (.inl hpR), hk p hp, keepOnly_in hpR]
    · exact merge_out hpR hp e2
  · rw [merge_in (.inr ho)]; exact hob
theorem DAt.only {H : Heap} {d o : Nat} {D : Dv} (h : DAt H d o D) : DAt (keepOnly [d, o] H) d o D := h.keep fun p hp => keepOnly_in (by simpa using hp)
theorem RAt.only {H : Heap} {r s e : Nat} {D : Dv} (h : RAt H r s e D) : RAt (keepOnly [r, s, e] H) r s e D := h.keep fun p hp => keepOnly_in (by simpa using hp)
end Go.Am.T


set_option linter.unusedVariables false
set_option linter.unusedSimpArgs false
set_option maxRecDepth 10000
namespace Go.Am.T
attribute [local congr] selV_congr impB_congr
theorem ext_app {H H' : Heap} (hl : H.length ≤ H'.length) (hk : ∀ p, p < H.length → H'[p]? = H[p]?) : ∃ T, H' = H ++ T := by
  refine ⟨H'.drop H.length, ?_⟩
  apply List.ext_getElem?
  intro i
  rcases Nat.lt_or_ge i H.length with h | h
  · rw [List.getElem?_append_left h]; exact hk i h
  · rw [List.getElem?_append_right h, List.getElem?_drop, Nat.add_sub_cancel' h]
def strB (l : List Int) : List UInt8 := l.map fun n => UInt8.ofNat n.toNat
theorem b2s_view {get : Nat → Option Ob} {l : List Int} {o v : Nat} {cap : Option Nat} (ho : get o = some ⟨v, .arr (l.map (V.int .u8))⟩) (fb : Nat) (ρ : Opd → V) (x : Opd) (hx : ρ x = .view o v 0 l.length 1 cap) : prim fb ρ get (.b2s x) = some (.ret (.str (strB l))) := by
  have key : ∀ (l : List Int), ((l.map (V.int .u8)).mapM fun (c : V) => match c with | .int .u8 n => some (UInt8.ofNat n.toNat) | _ => none) = some (strB l) := by
    intro l
    induction l with
    | nil => rfl
    | cons a l ih => rw [List.map_cons, List.mapM_cons, ih]; rfl
  have hf : firstA get 1 l.length (.view o v 0 l.length 1 cap) = some (l.map (V.int .u8)) := by
    simp only [firstA, ↓reduceIte, Nat.le_refl, loadA, cellsAt, ho, Nat.mul_one, Nat.zero_add, List.length_map, List.drop_zero]
    rw [List.take_of_length_le (by simp)]
  unfold prim
  simp only [hx, lenA, Option.bind_some]
  rw [hf]
  simp only [Option.bind_some]
  exact (congrArg (Option.map fun l => Eff.ret (V.str l)) (key l)).trans rfl
theorem num_spec {N n : Nat} (hn : 1 ≤ n) (x : Int) (H : Heap) : callA am N n 11 [.int .i64 x] H = some (.int .i64 x, H) := by
  obtain ⟨n, rfl⟩ : ∃ m, n = m + 1 := ⟨n - 1, by omega⟩
  refine call_pure at11 rfl rfl (by decide) rfl (sx_wp ?_)
  simp +contextual -implicitDefEqProofs (maxSteps := 10000000) only [sx_seq, sxL_succ, lpQ_norm, lpQ_exit, lpQ_ret, loopQ_norm, loopQ_exit, loopQ_ret, sqQ_norm, sqQ_ret, sqQ_exit, sx_block, blkQ_norm, blkQ_exit, blkQ_ret, sx_cond, cdP_true, cdP_false, cdP_bool, sx_region, sx_draw, plainD, List.all_cons, List.all_nil, List.isEmpty_nil, List.isEmpty_cons, sxo_nil, sxo_cons, sxo_guard, gdS_bool, gdS_eff, gdS_tup, gdS_sel, gdS_seleff, sxK_def, wcall_some, effP_ret, effP_set, effP_none, effP_ite, wop_call, wop_cv, cvP_func, sx_ret, sx_exit, sx_skip, sx_clr, sx_fresh, stays, ↓selV_wt, ↓selV_wf, ↓impB_wt, ↓impB_wf, ↓selV_nor, ↓impB_nor, ↓selV_nt, ↓selV_nf, ↓impB_nt, ↓impB_nf, wantB_true, wantB_false, ↓selV_true, ↓selV_false, ↓selV_and, ↓impB_true, ↓impB_false, ↓impB_and, impB_triv, valOf_some, retH_some, ↓prim_pick, pickO_true, pickO_false, pickO_and, pickO_or, pickO_andr, pickO_orr, pickO_orrn, pickO_orn, pickO_bb, pickAnd_bool, pickOr_bool, ↓selV_nn, ↓impB_nn, Bool.and_assoc, Bool.or_assoc, doOp, ev_fr, ev_cst, put_none, put_fr, get, ins, del, dels, Nat.reduceLT, Nat.reduceEqDiff, ↓reduceIte, reduceCtorEq, ne_eq, not_false_eq_true, implies_true, framed_pureF, framed_fb, framed_N, framed_pure, wop_prim, prim, YLD, mkA, V.cells, List.getElem?_cons_zero, List.getElem?_cons_succ, List.set_cons_zero, List.set_cons_succ, Nat.zero_add, Nat.add_zero, Nat.reduceAdd, Nat.reduceSub, Nat.reduceMul, Nat.reduceLeDiff, Nat.not_lt_zero, List.map_cons, List.map_nil, List.cons_append, List.nil_append, loadA, cellsAt, nAg, packA, opt_bind_some, opt_map_some, opt_bind_none, opt_map_none, List.drop, List.take, List.head?, List.length_cons, List.length_nil, binA, unA, eqCells, eqCell, negB, fillA, sr_nil, sr_cons, sr_succ, sr_all, sr_len, storeA, Ob.with, indexedI, V.oneCell, intOf?, retQ_ret, retQ_norm, resA, resA1, fr_getD, packR, sealDepth, shut_bool, shut_int, Option.some.injEq, V.bool.injEq, V.int.injEq, Bool.not_true, Bool.not_false, true_and, and_true, and_self, Bool.and_true, Bool.and_false, Bool.true_and, Bool.false_and, Bool.or_true, Bool.or_false, Bool.true_or, Bool.false_or, Bool.false_eq_true, Int.reduceLT, Int.reduceLE, Int.reduceToNat, Int.reduceNeg, shut_plain, freeL_cons, freeL_nil, free_int, free_bool, free_agg, free_str, free_nils, free_tup, free_sl, true_implies, false_implies, Nat.sub_zero, Int.natCast_nonneg, Int.toNat_natCast, Nat.le_refl, not_true_eq_false, Int.reduceAdd, Int.reduceSub, Int.reduceMul, wrap64, false_and, and_false, cond_true, cond_false, Bool.cond_true_left, Bool.cond_false_right, Int.reduceBNe, Int.reduceBEq, decide_true, decide_false, Int.cast_ofNat_Int, Nat.mul_one, eq_self, Bool.true_eq_false, Bool.not_eq_true, Bool.not_eq_false, deads, List.replicate, argsF, am11, isNil]
def zz : Ob := ⟨0, .dead⟩
def hS (H T : Heap) (r : Nat) (leave : Int) (a b c d e f g : Ob) : Heap := H ++ ⟨1, .var [.ptr r 1 0]⟩ :: ⟨1, .var [.int .i64 leave]⟩ :: ⟨1, .var [.bool false]⟩ :: a :: b :: c :: d :: e :: f :: g :: T
def tS (b d : Nat) (l : List (Nat × V)) : List V := fr 209 ((0, .ptr d 1 0) :: (4, .ptr b 1 0) :: (5, .ptr (b + 1) 1 0) :: (6, .ptr (b + 2) 1 0) :: l)
def sA : ACode := (.seq (.region [⟨some 4, (.box 0 (.tmp 1)), none⟩, ⟨some 5, (.box 1 (.tmp 2)), none⟩, ⟨some 6, (.allocz 2 [(.bool false)]), none⟩]) (.clr [2, 1]))
def sB : ACode := (.seq (.seq (.draw [(⟨some 23, (.move (.tmp 0)), none⟩, []), (⟨some 24, (.call 32 [(.tmp 23)]), none⟩, []), (⟨some 25, (.load none (.tmp 4)), none⟩, []), (⟨some 26, (.nilck (.tmp 25)), none⟩, []), (⟨some 27, (.faddr 0 (.tmp 26)), none⟩, []), (⟨some 28, (.load none (.tmp 27)), none⟩, []), (⟨some 29, (.lenS (.tmp 28)), none⟩, []), (⟨some 30, (.bin .neq (.tmp 24) (.tmp 29)), none⟩, []), (⟨some 31, (.move (.tmp 30)), none⟩, []), (⟨some 32, (.move (.tmp 0)), some (31, false)⟩, []), (⟨some 33, (.call 33 [(.tmp 32)]), some (31, false)⟩, []), (⟨some 34, (.load none (.tmp 4)), some (31, false)⟩, []), (⟨some 35, (.nilck (.tmp 34)), some (31, false)⟩, []), (⟨some 36, (.faddr 1 (.tmp 35)), some (31, false)⟩, []), (⟨some 37, (.load none (.tmp 36)), some (31, false)⟩, []), (⟨some 38, (.lenS (.tmp 37)), some (31, false)⟩, []), (⟨some 39, (.bin .neq (.tmp 33) (.tmp 38)), some (31, false)⟩, []), (⟨some 40, (.pick (.tmp 31) (.cst (.bool true)) (.tmp 39)), none⟩, []), (⟨some 41, (.move (.tmp 40)), none⟩, []), (⟨some 42, (.move (.tmp 0)), some (41, false)⟩, []), (⟨some 43, (.call 34 [(.tmp 42)]), some (41, false)⟩, []), (⟨some 44, (.load none (.tmp 4)), some (41, false)⟩, []), (⟨some 45, (.nilck (.tmp 44)), some (41, false)⟩, []), (⟨some 46, (.faddr 4 (.tmp 45)), some (41, false)⟩, []), (⟨some 47, (.load none (.tmp 46)), some (41, false)⟩, []), (⟨some 48, (.bin .neq (.tmp 43) (.tmp 47)), some (41, false)⟩, []), (⟨some 49, (.pick (.tmp 41) (.cst (.bool true)) (.tmp 48)), none⟩, []), (⟨some 50, (.move (.tmp 49)), none⟩, []), (⟨some 51, (.move (.tmp 0)), some (50, false)⟩, []), (⟨some 52, (.call 35 [(.tmp 51)]), some (50, false)⟩, []), (⟨some 53, (.b2s (.tmp 52)), some (50, false)⟩, []), (⟨some 54, (.load none (.tmp 4)), some (50, false)⟩, [29]), (⟨some 55, (.call 36 [(.tmp 54)]), some (50, false)⟩, [30]), (⟨some 56, (.b2s (.tmp 55)), some (50, false)⟩, []), (⟨some 57, (.bin .neq (.tmp 53) (.tmp 56)), some (50, false)⟩, []), (⟨some 58, (.pick (.tmp 50) (.cst (.bool true)) (.tmp 57)), none⟩, [])]) (.clr [57, 56, 55, 54, 53, 52, 51, 50, 49, 48, 47, 46, 45, 44, 43, 42, 41, 40, 39, 38, 37, 36, 35, 34, 33, 32, 31, 30, 29, 28, 27, 26, 25, 24, 23])) (.cond (.tmp 58) (.seq (.clr [146, 145, 58, 5, 4, 0]) (.seq (.region [⟨none, (.store 1 (.tmp 6) (.cst (.bool false))), none⟩]) .ret)) (.seq (.clr [58]) .skip)))
def sC : ACode := (.seq (.region [⟨some 7, (.move (.cst (.int .i64 (-1)))), none⟩]) (.block 0 (.loop [] [] (.seq (.seq (.seq (.region [⟨some 59, (.move (.tmp 7)), none⟩, ⟨some 60, (.load none (.tmp 4)), none⟩, ⟨some 61, (.nilck (.tmp 60)), none⟩, ⟨some 62, (.faddr 1 (.tmp 61)), none⟩, ⟨some 63, (.load none (.tmp 62)), none⟩, ⟨some 64, (.lenS (.tmp 63)), none⟩, ⟨some 65, (.bin .leq (.tmp 59) (.tmp 64)), none⟩]) (.clr [64, 63, 62, 61, 60, 59])) (.cond (.tmp 65) (.seq (.clr [65]) .skip) (.seq (.clr [65, 7]) (.exit 0)))) (.seq (.block 1 (.seq (.seq (.region [⟨some 69, (.move (.tmp 0)), none⟩, ⟨some 70, (.move (.tmp 7)), none⟩, ⟨some 71, (.call 19 [(.tmp 69), (.tmp 70)]), none⟩, ⟨some 68, (.move (.tmp 71)), none⟩, ⟨some 72, (.extract (.tmp 68) 0), none⟩, ⟨some 73, (.extract (.tmp 68) 1), none⟩, ⟨some 8, (.move (.tmp 72)), none⟩, ⟨some 9, (.move (.tmp 73)), none⟩]) (.clr [73, 72, 71, 70, 69, 68])) (.seq (.seq (.region [⟨some 75, (.load none (.tmp 4)), none⟩, ⟨some 76, (.move (.tmp 7)), none⟩, ⟨some 77, (.call 37 [(.tmp 75), (.tmp 76)]), none⟩, ⟨some 74, (.move (.tmp 77)), none⟩, ⟨some 78, (.extract (.tmp 74) 0), none⟩, ⟨some 79, (.extract (.tmp 74) 1), none⟩, ⟨some 10, (.move (.tmp 78)), none⟩, ⟨some 11, (.move (.tmp 79)), none⟩]) (.clr [79, 78, 77, 76, 75, 74])) (.seq (.seq (.seq (.region [⟨some 80, (.move (.tmp 8)), none⟩, ⟨some 81, (.move (.tmp 10)), none⟩, ⟨some 82, (.bin .neq (.tmp 80) (.tmp 81)), none⟩, ⟨some 83, (.move (.tmp 82)), none⟩, ⟨some 84, (.move (.tmp 9)), some (83, false)⟩, ⟨some 85, (.call 11 [(.tmp 84)]), some (83, false)⟩, ⟨some 86, (.move (.tmp 11)), some (83, false)⟩, ⟨some 87, (.bin .neq (.tmp 85) (.tmp 86)), some (83, false)⟩, ⟨some 88, (.pick (.tmp 83) (.cst (.bool true)) (.tmp 87)), none⟩]) (.clr [87, 86, 85, 84, 83, 82, 81, 80, 11, 9, 8])) (.cond (.tmp 88) (.seq (.clr [146, 145, 88, 10, 7, 5, 4, 0]) (.seq (.region [⟨none, (.store 1 (.tmp 6) (.cst (.bool false))), none⟩]) .ret)) (.seq (.clr [88]) .skip))) (.seq (.seq (.region [⟨some 89, (.move (.tmp 10)), none⟩, ⟨some 90, (.bin .sub (.tmp 89) (.cst (.int .i64 1))), none⟩, ⟨some 12, (.move (.tmp 90)), none⟩]) (.clr [90, 89])) (.block 2 (.loop [] [] (.seq (.seq (.seq (.region [⟨some 91, (.move (.tmp 12)), none⟩, ⟨some 92, (.move (.tmp 10)), none⟩, ⟨some 93, (.bin .add (.tmp 92) (.cst (.int .i64 1))), none⟩, ⟨some 94, (.bin .leq (.tmp 91) (.tmp 93)), none⟩]) (.clr [93, 92, 91])) (.cond (.tmp 94) (.seq (.clr [94]) .skip) (.seq (.clr [94, 12, 10]) (.exit 2)))) (.seq (.block 3 (.seq (.seq (.region [⟨some 97, (.move (.tmp 0)), none⟩, ⟨some 98, (.move (.tmp 7)), none⟩, ⟨some 99, (.move (.tmp 12)), none⟩, ⟨some 100, (.call 38 [(.tmp 97), (.tmp 98), (.tmp 99)]), none⟩, ⟨some 101, (.load none (.tmp 4)), none⟩, ⟨some 102, (.move (.tmp 7)), none⟩, ⟨some 103, (.move (.tmp 12)), none⟩, ⟨some 104, (.call 39 [(.tmp 101), (.tmp 102), (.tmp 103)]), none⟩, ⟨some 105, (.eqc true false [.b] (.tmp 100) (.tmp 104)), none⟩]) (.clr [104, 103, 102, 101, 100, 99, 98, 97])) (.cond (.tmp 105) (.seq (.clr [146, 145, 105, 12, 10, 7, 5, 4, 0]) (.seq (.region [⟨none, (.store 1 (.tmp 6) (.cst (.bool false))), none⟩]) .ret)) (.seq (.clr [105]) .skip)))) (.seq (.region [⟨some 95, (.move (.tmp 12)), none⟩, ⟨some 96, (.bin .add (.tmp 95) (.cst (.int .i64 1))), none⟩, ⟨some 12, (.move (.tmp 96)), none⟩]) (.clr [96, 95]))))))))))) (.seq (.region [⟨some 66, (.move (.tmp 7)), none⟩, ⟨some 67, (.bin .add (.tmp 66) (.cst (.int .i64 1))), none⟩, ⟨some 7, (.move (.tmp 67)), none⟩]) (.clr [67, 66])))))))
def sD : ACode := (.seq (.region [⟨some 13, (.move (.cst (.int .i64 (-1)))), none⟩]) (.block 4 (.loop [] [] (.seq (.seq (.seq (.region [⟨some 106, (.move (.tmp 13)), none⟩, ⟨some 107, (.load none (.tmp 4)), none⟩, ⟨some 108, (.nilck (.tmp 107)), none⟩, ⟨some 109, (.faddr 0 (.tmp 108)), none⟩, ⟨some 110, (.load none (.tmp 109)), none⟩, ⟨some 111, (.lenS (.tmp 110)), none⟩, ⟨some 112, (.bin .leq (.tmp 106) (.tmp 111)), none⟩]) (.clr [111, 110, 109, 108, 107, 106])) (.cond (.tmp 112) (.seq (.clr [112]) .skip) (.seq (.clr [112, 13]) (.exit 4)))) (.seq (.block 5 (.seq (.seq (.region [⟨some 116, (.move (.tmp 0)), none⟩, ⟨some 117, (.move (.tmp 13)), none⟩, ⟨some 118, (.call 26 [(.tmp 116), (.tmp 117)]), none⟩, ⟨some 115, (.move (.tmp 118)), none⟩, ⟨some 119, (.extract (.tmp 115) 0), none⟩, ⟨some 120, (.extract (.tmp 115) 1), none⟩, ⟨some 14, (.allocz 3 [(.int .u8 0), (.int .u8 0), (.int .u8 0), (.int .u8 0), (.int .u8 0), (.int .u8 0), (.int .u8 0), (.int .u8 0), (.int .u8 0), (.int .u8 0), (.int .u8 0), (.int .u8 0), (.int .u8 0), (.int .u8 0), (.int .u8 0), (.int .u8 0), (.int .u8 0), (.int .u8 0), (.int .u8 0), (.int .u8 0), (.int .u8 0), (.int .u8 0), (.int .u8 0), (.int .u8 0), (.int .u8 0), (.int .u8 0), (.int .u8 0), (.int .u8 0), (.int .u8 0), (.int .u8 0), (.int .u8 0), (.int .u8 0), (.int .u8 0), (.int .u8 0), (.int .u8 0), (.int .u8 0), (.int .u8 0), (.int .u8 0), (.int .u8 0), (.int .u8 0), (.int .u8 0), (.int .u8 0), (.int .u8 0), (.int .u8 0), (.int .u8 0), (.int .u8 0), (.int .u8 0), (.int .u8 0), (.int .u8 0), (.int .u8 0), (.int .u8 0), (.int .u8 0), (.int .u8 0), (.int .u8 0), (.int .u8 0), (.int .u8 0), (.int .u8 0), (.int .u8 0), (.int .u8 0), (.int .u8 0), (.int .u8 0), (.int .u8 0), (.int .u8 0), (.int .u8 0)]), none⟩, ⟨none, (.store 64 (.tmp 14) (.tmp 119)), none⟩, ⟨some 15, (.move (.tmp 120)), none⟩]) (.clr [120, 119, 118, 117, 116, 115])) (.seq (.seq (.region [⟨some 122, (.load none (.tmp 4)), none⟩, ⟨some 123, (.move (.tmp 13)), none⟩, ⟨some 124, (.call 40 [(.tmp 122), (.tmp 123)]), none⟩, ⟨some 121, (.move (.tmp 124)), none⟩, ⟨some 125, (.extract (.tmp 121) 0), none⟩, ⟨some 126, (.extract (.tmp 121) 1), none⟩, ⟨some 16, (.allocz 4 [(.int .u8 0), (.int .u8 0), (.int .u8 0), (.int .u8 0), (.int .u8 0), (.int .u8 0), (.int .u8 0), (.int .u8 0), (.int .u8 0), (.int .u8 0), (.int .u8 0), (.int .u8 0), (.int .u8 0), (.int .u8 0), (.int .u8 0), (.int .u8 0), (.int .u8 0), (.int .u8 0), (.int .u8 0), (.int .u8 0), (.int .u8 0), (.int .u8 0), (.int .u8 0), (.int .u8 0), (.int .u8 0), (.int .u8 0), (.int .u8 0), (.int .u8 0), (.int .u8 0), (.int .u8 0), (.int .u8 0), (.int .u8 0), (.int .u8 0), (.int .u8 0), (.int .u8 0), (.int .u8 0), (.int .u8 0), (.int .u8 0), (.int .u8 0), (.int .u8 0), (.int .u8 0), (.int .u8 0), (.int .u8 0), (.int .u8 0), (.int .u8 0), (.int .u8 0), (.int .u8 0), (.int .u8 0), (.int .u8 0), (.int .u8 0), (.int .u8 0), (.int .u8 0), (.int .u8 0), (.int .u8 0), (.int .u8 0), (.int .u8 0), (.int .u8 0), (.int .u8 0), (.int .u8 0), (.int .u8 0), (.int .u8 0), (.int .u8 0), (.int .u8 0), (.int .u8 0)]), none⟩, ⟨none, (.store 64 (.tmp 16) (.tmp 125)), none⟩, ⟨some 17, (.move (.tmp 126)), none⟩]) (.clr [126, 125, 124, 123, 122, 121])) (.seq (.seq (.region [⟨some 127, (.load (some 64) (.tmp 14)), none⟩, ⟨some 128, (.load (some 64) (.tmp 16)), none⟩, ⟨some 129, (.eqc true true [(.i .u8), (.i .u8), (.i .u8), (.i .u8), (.i .u8), (.i .u8), (.i .u8), (.i .u8), (.i .u8), (.i .u8), (.i .u8), (.i .u8), (.i .u8), (.i .u8), (.i .u8), (.i .u8), (.i .u8), (.i .u8), (.i .u8), (.i .u8), (.i .u8), (.i .u8), (.i .u8), (.i .u8), (.i .u8), (.i .u8), (.i .u8), (.i .u8), (.i .u8), (.i .u8), (.i .u8), (.i .u8), (.i .u8), (.i .u8), (.i .u8), (.i .u8), (.i .u8), (.i .u8), (.i .u8), (.i .u8), (.i .u8), (.i .u8), (.i .u8), (.i .u8), (.i .u8), (.i .u8), (.i .u8), (.i .u8), (.i .u8), (.i .u8), (.i .u8), (.i .u8), (.i .u8), (.i .u8), (.i .u8), (.i .u8), (.i .u8), (.i .u8), (.i .u8), (.i .u8), (.i .u8), (.i .u8), (.i .u8), (.i .u8)] (.tmp 127) (.tmp 128)), none⟩, ⟨some 130, (.move (.tmp 129)), none⟩, ⟨some 131, (.move (.tmp 15)), some (130, false)⟩, ⟨some 132, (.call 11 [(.tmp 131)]), some (130, false)⟩, ⟨some 133, (.move (.tmp 17)), some (130, false)⟩, ⟨some 134, (.bin .neq (.tmp 132) (.tmp 133)), some (130, false)⟩, ⟨some 135, (.pick (.tmp 130) (.cst (.bool true)) (.tmp 134)), none⟩]) (.clr [134, 133, 132, 131, 130, 129, 128, 127, 17, 16, 15, 14])) (.cond (.tmp 135) (.seq (.clr [146, 145, 135, 13, 5, 4, 0]) (.seq (.region [⟨none, (.store 1 (.tmp 6) (.cst (.bool false))), none⟩]) .ret)) (.seq (.clr [135]) .skip)))))) (.seq (.region [⟨some 113, (.move (.tmp 13)), none⟩, ⟨some 114, (.bin .add (.tmp 113) (.cst (.int .i64 1))), none⟩, ⟨some 13, (.move (.tmp 114)), none⟩]) (.clr [114, 113])))))))
set_option maxHeartbeats 2000000 in
theorem stands1 {N n : Nat} (hN : 5000 ≤ N) (hn : 6 ≤ n) {H : Heap} {d so r s e : Nat} {D : Dv} (h : DAt H d so D) (hr : RAt H r s e D) (leave : Int) :
    ∃ T, sx ⟨pureOf am, callA am N n, N, H.length⟩ sB (tS H.length d []) (hS H [] r leave zz zz zz zz zz zz zz) fun x t' h' => x = .norm ∧ t' = tS H.length d [] ∧ h' = hS H T r leave zz zz zz zz zz zz zz := by
  obtain ⟨K, hK⟩ : ∃ K : Heap, K = hS H [] r leave zz zz zz zz zz zz zz := ⟨_, rfl⟩
  have hKl : K.length = H.length + 10 := by rw [hK]; simp [hS]
  have D1 : DAt K d so D := by rw [hK]; exact h.app _
  have R1 : RAt K r s e D := by rw [hK]; exact hr.app _
  have f32 := @frame_look N n 32 [.ptr d 1 0] K _ _ pm32 D1.reach D1.closed (@size_spec N n (by omega) K _ _ D1.looks) H.length
  have f33 := @frame_look N n 33 [.ptr d 1 0] K _ _ pm33 D1.reach D1.closed (@nodes_spec N n (by omega) K _ _ D1.looks) H.length
  have f34 := @frame_look N n 34 [.ptr d 1 0] K _ _ pm34 D1.reach D1.closed (@done_spec N n (by omega) K _ _ D1.looks) H.length
  obtain ⟨H1, W1, f35, l1, k1, o1, v1, ho1, rfl, q1⟩ := frame_bytes pm35 D1.reach D1.closed (@bytes_spec N n hN (by omega) _ _ _ _ D1.only) H.length
  have R2 : RAt H1 r s e D := R1.keep fun p hp => k1 p (by obtain ⟨a, b, c⟩ := R1.lt; rcases hp with rfl | rfl | rfl <;> assumption)
  obtain ⟨H2, W2, f36, l2, k2, o2, v2, ho2, rfl, q2⟩ := frame_bytes pm36 R2.reach R2.closed (@rbytes_spec N n hN (by omega) _ _ _ _ _ R2.only) H.length
  have k12 : ∀ p, p < K.length → H2[p]? = K[p]? := fun p hp => by rw [k2 p (by omega), k1 p hp]
  obtain ⟨T, hT⟩ := ext_app (H := K) (H' := H2) (by omega) k12
  have hT' : H2 = hS H T r leave zz zz zz zz zz zz zz := by rw [hT, hK]; simp [hS]
  obtain ⟨g1, g2⟩ := h.lt
  obtain ⟨g3, g4, g5⟩ := hr.lt
  obtain ⟨ver, cap, ver', cap', hrK, -, -⟩ := R1.ob
  refine ⟨T, ?_⟩
  have hr1 : H1[r]? = K[r]? := k1 r (by omega)
  have e2 : D.rcs (.view s ver 0 D.S.length 64 cap) (.view e ver' 0 D.n 1 cap') = [.view s ver 0 D.S.length 64 cap, .view e ver' 0 D.n 1 cap', .int .i64 D.rl, .bool D.lost, .int .i64 D.done] := rfl
  rw [e2] at hrK
  have hb1 : H1[H.length]? = some ⟨1, .var [.ptr r 1 0]⟩ := by rw [k1 _ (by omega), hK, hS, app_get0]; rfl
  have q0 : H2[o1]? = some ⟨v1, .arr (D.S.flatten.map (V.int .u8))⟩ := by
    rw [k2 o1 (lt_of_get q1)]; exact q1
  have p1 := @b2s_view (fun o => H1[o]?) _ o1 v1 none q1
  have p2 := @b2s_view (fun o => H2[o]?) _ o2 v2 none q2
  have b2 : ∀ x : Int, (x != x) = false := fun x => by simp
  have b3 : ∀ x : List UInt8, (x != x) = false := fun x => by simp
  have n1 : (d == H.length) = false := by simp; omega
  have n2 : (so == H.length) = false := by simp; omega
  have n1' : (H.length == d) = false := by simp; omega
  have n2' : (H.length == so) = false := by simp; omega
  have n3 : (r == o1) = false := by simp; omega
  have n4 : (s == o1) = false := by simp; omega
  have n5 : (e == o1) = false := by simp; omega
  have n3' : (o1 == r) = false := by simp; omega
  have n4' : (o1 == s) = false := by simp; omega
  have n5' : (o1 == e) = false := by simp; omega
  have lk : decide (H.length < K.length) = true := decide_eq_true (by omega)
  have dr := D1.reach
  have rr := R2.reach
  rw [← hT', ← hK]
  have hbK : K[H.length]? = some ⟨1, .var [.ptr r 1 0]⟩ := by rw [hK, hS, app_get0]; rfl
  clear hT hT' hK k1 k2 k12 D1 R1 R2 h hr
  unfold tS
  simp +contextual -implicitDefEqProofs (maxSteps := 10000000) only [sx_seq, sxL_succ, lpQ_norm, lpQ_exit, lpQ_ret, loopQ_norm, loopQ_exit, loopQ_ret, sqQ_norm, sqQ_ret, sqQ_exit, sx_block, blkQ_norm, blkQ_exit, blkQ_ret, sx_cond, cdP_true, cdP_false, cdP_bool, sx_region, sx_draw, plainD, List.all_cons, List.all_nil, List.isEmpty_nil, List.isEmpty_cons, sxo_nil, sxo_cons, sxo_guard, gdS_bool, gdS_eff, gdS_tup, gdS_sel, gdS_seleff, sxK_def, wcall_some, effP_ret, effP_set, effP_none, effP_ite, wop_call, wop_cv, cvP_func, sx_ret, sx_exit, sx_skip, sx_clr, sx_fresh, stays, ↓selV_wt, ↓selV_wf, ↓impB_wt, ↓impB_wf, ↓selV_nor, ↓impB_nor, ↓selV_nt, ↓selV_nf, ↓impB_nt, ↓impB_nf, wantB_true, wantB_false, ↓selV_true, ↓selV_false, ↓selV_and, ↓impB_true, ↓impB_false, ↓impB_and, impB_triv, valOf_some, retH_some, ↓prim_pick, pickO_true, pickO_false, pickO_and, pickO_or, pickO_andr, pickO_orr, pickO_orrn, pickO_orn, pickO_bb, pickAnd_bool, pickOr_bool, ↓selV_nn, ↓impB_nn, Bool.and_assoc, Bool.or_assoc, doOp, ev_fr, ev_cst, put_none, put_fr, get, ins, del, dels, Nat.reduceLT, Nat.reduceEqDiff, ↓reduceIte, reduceCtorEq, ne_eq, not_false_eq_true, implies_true, framed_pureF, framed_fb, framed_N, framed_pure, wop_prim, prim, YLD, mkA, V.cells, List.getElem?_cons_zero, List.getElem?_cons_succ, List.set_cons_zero, List.set_cons_succ, Nat.zero_add, Nat.add_zero, Nat.reduceAdd, Nat.reduceSub, Nat.reduceMul, Nat.reduceLeDiff, Nat.not_lt_zero, List.map_cons, List.map_nil, List.cons_append, List.nil_append, loadA, cellsAt, nAg, packA, opt_bind_some, opt_map_some, opt_bind_none, opt_map_none, List.drop, List.take, List.head?, List.length_cons, List.length_nil, binA, unA, eqCells, eqCell, negB, fillA, sr_nil, sr_cons, sr_succ, sr_all, sr_len, storeA, Ob.with, indexedI, V.oneCell, intOf?, retQ_ret, retQ_norm, resA, resA1, fr_getD, packR, sealDepth, shut_bool, shut_int, Option.some.injEq, V.bool.injEq, V.int.injEq, Bool.not_true, Bool.not_false, true_and, and_true, and_self, Bool.and_true, Bool.and_false, Bool.true_and, Bool.false_and, Bool.or_true, Bool.or_false, Bool.true_or, Bool.false_or, Bool.false_eq_true, Int.reduceLT, Int.reduceLE, Int.reduceToNat, Int.reduceNeg, shut_plain, freeL_cons, freeL_nil, free_int, free_bool, free_agg, free_str, free_nils, free_tup, free_sl, true_implies, false_implies, Nat.sub_zero, Int.natCast_nonneg, Int.toNat_natCast, Nat.le_refl, not_true_eq_false, Int.reduceAdd, Int.reduceSub, Int.reduceMul, wrap64, false_and, and_false, cond_true, cond_false, Bool.cond_true_left, Bool.cond_false_right, Int.reduceBNe, Int.reduceBEq, decide_true, decide_false, Int.cast_ofNat_Int, Nat.mul_one, eq_self, Bool.true_eq_false, Bool.not_eq_true, Bool.not_eq_false, deads, List.replicate, argsF, sB, sx_drawd, reachC_nil, wpd_nil, wpd_cons, wpd_gt, wpd_gf, wpd_gu, wdK_def, fpOf, fpV, fpCall, Fp.ok, FpT.ok, tagF, AOp.rds, disj, List.contains_cons, List.contains_nil, Nat.reduceBEq, List.all_append, V.objsL, V.objs,  List.getD_cons_zero, List.getD_cons_succ, List.append_nil, beq_self_eq_true, f32, f33, f34, f35, f36, hbK, hrK, hb1, lenA, b2, b3, ↓p1, ↓p2, n1, n2, n3, n4, n5, n1', n2', n3', n4', n5', lk, dr, rr, fpV, fpCall, pm32, pm33, pm34, pm35, pm36]
end Go.Am.T


set_option linter.unusedVariables false
set_option linter.unusedSimpArgs false
set_option maxRecDepth 10000
namespace Go.Am.T
attribute [local congr] selV_congr impB_congr
theorem hS_get0 {H T : Heap} {r : Nat} {leave : Int} {a b c d e f g : Ob} : (hS H T r leave a b c d e f g)[H.length]? = some ⟨1, .var [.ptr r 1 0]⟩ := by rw [hS, app_get0]; rfl
set_option maxHeartbeats 2000000 in
theorem stands2 {N n : Nat} (hN : 5000 ≤ N) (hn : 6 ≤ n) {H T : Heap} {d so r s e : Nat} {D : Dv} (h : DAt H d so D) (hr : RAt H r s e D) (leave : Int) :
    sx ⟨pureOf am, callA am N n, N, H.length⟩ sC (tS H.length d []) (hS H T r leave zz zz zz zz zz zz zz) fun x t' h' => x = .norm ∧ t' = tS H.length d [] ∧ h' = hS H T r leave zz zz zz zz zz zz zz := by
  have ok := h.ok
  have n8 := ok.n8
  obtain ⟨K, hK⟩ : ∃ K : Heap, K = hS H T r leave zz zz zz zz zz zz zz := ⟨_, rfl⟩
  have D1 : DAt K d so D := by rw [hK]; exact h.app _
  have R1 : RAt K r s e D := by rw [hK]; exact hr.app _
  have c19 := fun i => @epoch_spec N n (by omega) K _ _ D1.looks i
  have c37 := fun i => @repoch_spec N n (by omega) K _ _ R1.looks i
  have c38 := fun i x => @fenced_spec N n (by omega) K _ _ D1.looks i x
  have c39 := fun i x => @rfenced_spec N n (by omega) K _ _ R1.looks i x
  have c11 := fun x => @num_spec N n (by omega) x K
  obtain ⟨ver, cap, ver', cap', hrK, -, -⟩ := R1.ob
  have e2 : D.rcs (.view s ver 0 D.S.length 64 cap) (.view e ver' 0 D.n 1 cap') = [.view s ver 0 D.S.length 64 cap, .view e ver' 0 D.n 1 cap', .int .i64 D.rl, .bool D.lost, .int .i64 D.done] := rfl
  rw [e2] at hrK
  have hb : K[H.length]? = some ⟨1, .var [.ptr r 1 0]⟩ := by rw [hK]; exact hS_get0
  have b2 : ∀ x : Int, (x != x) = false := fun x => by simp
  have b3 : ∀ x : Bool, (x != x) = false := fun x => by simp
  rw [← hK]
  clear hK D1 R1
  have hI : ∀ i : Int, ∃ ep er : Int, (bif D.isNode i then [V.int .i64 (D.ep i), V.int .i64 0] else [V.int .i64 0, V.int .i64 2]) = [V.int .i64 ep, V.int .i64 er] ∧ 0 ≤ ep ∧ ep ≤ 2147483647 := fun i => by
    have := ep_bound ok i
    cases D.isNode i
    · exact ⟨0, 2, rfl, by omega, by omega⟩
    · exact ⟨D.ep i, 0, rfl, this.1, this.2⟩
  unfold tS
  simp +contextual -implicitDefEqProofs (maxSteps := 10000000) only [sx_seq, sxL_succ, lpQ_norm, lpQ_exit, lpQ_ret, loopQ_norm, loopQ_exit, loopQ_ret, sqQ_norm, sqQ_ret, sqQ_exit, sx_block, blkQ_norm, blkQ_exit, blkQ_ret, sx_cond, cdP_true, cdP_false, cdP_bool, sx_region, sx_draw, plainD, List.all_cons, List.all_nil, List.isEmpty_nil, List.isEmpty_cons, sxo_nil, sxo_cons, sxo_guard, gdS_bool, gdS_eff, gdS_tup, gdS_sel, gdS_seleff, sxK_def, wcall_some, effP_ret, effP_set, effP_none, effP_ite, wop_call, wop_cv, cvP_func, sx_ret, sx_exit, sx_skip, sx_clr, sx_fresh, stays, ↓selV_wt, ↓selV_wf, ↓impB_wt, ↓impB_wf, ↓selV_nor, ↓impB_nor, ↓selV_nt, ↓selV_nf, ↓impB_nt, ↓impB_nf, wantB_true, wantB_false, ↓selV_true, ↓selV_false, ↓selV_and, ↓impB_true, ↓impB_false, ↓impB_and, impB_triv, valOf_some, retH_some, ↓prim_pick, pickO_true, pickO_false, pickO_and, pickO_or, pickO_andr, pickO_orr, pickO_orrn, pickO_orn, pickO_bb, pickAnd_bool, pickOr_bool, ↓selV_nn, ↓impB_nn, Bool.and_assoc, Bool.or_assoc, doOp, ev_fr, ev_cst, put_none, put_fr, get, ins, del, dels, Nat.reduceLT, Nat.reduceEqDiff, ↓reduceIte, reduceCtorEq, ne_eq, not_false_eq_true, implies_true, framed_pureF, framed_fb, framed_N, framed_pure, wop_prim, prim, YLD, mkA, V.cells, List.getElem?_cons_zero, List.getElem?_cons_succ, List.set_cons_zero, List.set_cons_succ, Nat.zero_add, Nat.add_zero, Nat.reduceAdd, Nat.reduceSub, Nat.reduceMul, Nat.reduceLeDiff, Nat.not_lt_zero, List.map_cons, List.map_nil, List.cons_append, List.nil_append, loadA, cellsAt, nAg, packA, opt_bind_some, opt_map_some, opt_bind_none, opt_map_none, List.drop, List.take, List.head?, List.length_cons, List.length_nil, binA, unA, eqCells, eqCell, negB, fillA, sr_nil, sr_cons, sr_succ, sr_all, sr_len, storeA, Ob.with, indexedI, V.oneCell, intOf?, retQ_ret, retQ_norm, resA, resA1, fr_getD, packR, sealDepth, shut_bool, shut_int, Option.some.injEq, V.bool.injEq, V.int.injEq, Bool.not_true, Bool.not_false, true_and, and_true, and_self, Bool.and_true, Bool.and_false, Bool.true_and, Bool.false_and, Bool.or_true, Bool.or_false, Bool.true_or, Bool.false_or, Bool.false_eq_true, Int.reduceLT, Int.reduceLE, Int.reduceToNat, Int.reduceNeg, shut_plain, freeL_cons, freeL_nil, free_int, free_bool, free_agg, free_str, free_nils, free_tup, free_sl, true_implies, false_implies, Nat.sub_zero, Int.natCast_nonneg, Int.toNat_natCast, Nat.le_refl, not_true_eq_false, Int.reduceAdd, Int.reduceSub, Int.reduceMul, wrap64, false_and, and_false, cond_true, cond_false, Bool.cond_true_left, Bool.cond_false_right, Int.reduceBNe, Int.reduceBEq, decide_true, decide_false, Int.cast_ofNat_Int, Nat.mul_one, eq_self, Bool.true_eq_false, Bool.not_eq_true, Bool.not_eq_false, deads, List.replicate, argsF, sC]
  refine sx_loop (fun i t k => i ≤ D.n + 2 ∧ t = fr 209 [(0, .ptr d 1 0), (4, .ptr H.length 1 0), (5, .ptr (H.length + 1) 1 0), (6, .ptr (H.length + 2) 1 0), (7, .int .i64 ((i : Int) - 1))] ∧ k = K) (D.n + 2) (by show D.n + 2 < N; omega) ⟨Nat.zero_le _, rfl, rfl⟩ ?_
  rintro i t k hi ⟨hi', rfl, rfl⟩
  by_cases hlt : (i : Int) - 1 ≤ (D.n : Int)
  · have g1 : decide ((i : Int) - 1 ≤ (D.n : Int)) = true := decide_eq_true hlt
    have w4 : IntKind.i64.wrap ((i : Int) - 1 + 1) = ((i + 1 : Nat) : Int) - 1 := (wrap64 (by omega) (by omega)).trans (by omega)
    have hi1 : i + 1 ≤ D.n + 2 := by omega
    have hi2 : i < D.n + 2 := by omega
    have c19' := c19 ((i : Int) - 1)
    have c37' := c37 ((i : Int) - 1)
    have c38' := c38 ((i : Int) - 1)
    have c39' := c39 ((i : Int) - 1)
    obtain ⟨ep, er, he, h0, h1⟩ := hI ((i : Int) - 1)
    rw [he] at c19' c37'
    have w5 : IntKind.i64.wrap (ep - 1) = ep - 1 := wrap64 (by omega) (by omega)
    have w6 : IntKind.i64.wrap (ep + 1) = ep + 1 := wrap64 (by omega) (by omega)
    generalize D.isNode ((i : Int) - 1) = nn at *
    generalize D.ep ((i : Int) - 1) = ee at *
    clear c19 c37 c38 c39 he hI
    simp +contextual -implicitDefEqProofs (maxSteps := 10000000) only [sx_seq, sxL_succ, lpQ_norm, lpQ_exit, lpQ_ret, loopQ_norm, loopQ_exit, loopQ_ret, sqQ_norm, sqQ_ret, sqQ_exit, sx_block, blkQ_norm, blkQ_exit, blkQ_ret, sx_cond, cdP_true, cdP_false, cdP_bool, sx_region, sx_draw, plainD, List.all_cons, List.all_nil, List.isEmpty_nil, List.isEmpty_cons, sxo_nil, sxo_cons, sxo_guard, gdS_bool, gdS_eff, gdS_tup, gdS_sel, gdS_seleff, sxK_def, wcall_some, effP_ret, effP_set, effP_none, effP_ite, wop_call, wop_cv, cvP_func, sx_ret, sx_exit, sx_skip, sx_clr, sx_fresh, stays, ↓selV_wt, ↓selV_wf, ↓impB_wt, ↓impB_wf, ↓selV_nor, ↓impB_nor, ↓selV_nt, ↓selV_nf, ↓impB_nt, ↓impB_nf, wantB_true, wantB_false, ↓selV_true, ↓selV_false, ↓selV_and, ↓impB_true, ↓impB_false, ↓impB_and, impB_triv, valOf_some, retH_some, ↓prim_pick, pickO_true, pickO_false, pickO_and, pickO_or, pickO_andr, pickO_orr, pickO_orrn, pickO_orn, pickO_bb, pickAnd_bool, pickOr_bool, ↓selV_nn, ↓impB_nn, Bool.and_assoc, Bool.or_assoc, doOp, ev_fr, ev_cst, put_none, put_fr, get, ins, del, dels, Nat.reduceLT, Nat.reduceEqDiff, ↓reduceIte, reduceCtorEq, ne_eq, not_false_eq_true, implies_true, framed_pureF, framed_fb, framed_N, framed_pure, wop_prim, prim, YLD, mkA, V.cells, List.getElem?_cons_zero, List.getElem?_cons_succ, List.set_cons_zero, List.set_cons_succ, Nat.zero_add, Nat.add_zero, Nat.reduceAdd, Nat.reduceSub, Nat.reduceMul, Nat.reduceLeDiff, Nat.not_lt_zero, List.map_cons, List.map_nil, List.cons_append, List.nil_append, loadA, cellsAt, nAg, packA, opt_bind_some, opt_map_some, opt_bind_none, opt_map_none, List.drop, List.take, List.head?, List.length_cons, List.length_nil, binA, unA, eqCells, eqCell, negB, fillA, sr_nil, sr_cons, sr_succ, sr_all, sr_len, storeA, Ob.with, indexedI, V.oneCell, intOf?, retQ_ret, retQ_norm, resA, resA1, fr_getD, packR, sealDepth, shut_bool, shut_int, Option.some.injEq, V.bool.injEq, V.int.injEq, Bool.not_true, Bool.not_false, true_and, and_true, and_self, Bool.and_true, Bool.and_false, Bool.true_and, Bool.false_and, Bool.or_true, Bool.or_false, Bool.true_or, Bool.false_or, Bool.false_eq_true, Int.reduceLT, Int.reduceLE, Int.reduceToNat, Int.reduceNeg, shut_plain, freeL_cons, freeL_nil, free_int, free_bool, free_agg, free_str, free_nils, free_tup, free_sl, true_implies, false_implies, Nat.sub_zero, Int.natCast_nonneg, Int.toNat_natCast, Nat.le_refl, not_true_eq_false, Int.reduceAdd, Int.reduceSub, Int.reduceMul, wrap64, false_and, and_false, cond_true, cond_false, Bool.cond_true_left, Bool.cond_false_right, Int.reduceBNe, Int.reduceBEq, decide_true, decide_false, Int.cast_ofNat_Int, Nat.mul_one, eq_self, Bool.true_eq_false, Bool.not_eq_true, Bool.not_eq_false, deads, List.replicate, argsF, hb, hrK, lenA, g1, c19', c37', b2, c11, pm11, w5, w6]
    refine sx_loop (fun j t k' => j ≤ 3 ∧ t = fr 209 [(0, .ptr d 1 0), (4, .ptr H.length 1 0), (5, .ptr (H.length + 1) 1 0), (6, .ptr (H.length + 2) 1 0), (7, .int .i64 ((i : Int) - 1)), (10, .int .i64 ep), (12, .int .i64 (ep - 1 + (j : Int)))] ∧ k' = k) 3 (by show 3 < N; omega) ⟨by omega, by simp, rfl⟩ ?_
    rintro j t k' hj ⟨hj', rfl, rfl⟩
    by_cases hjt : ep - 1 + (j : Int) ≤ ep + 1
    · have g2 : decide (ep - 1 + (j : Int) ≤ ep + 1) = true := decide_eq_true hjt
      have w7 : IntKind.i64.wrap (ep - 1 + (j : Int) + 1) = ep - 1 + ((j + 1 : Nat) : Int) := (wrap64 (by omega) (by omega)).trans (by omega)
      have hj1 : j + 1 ≤ 3 := by omega
      have hj2 : j < 3 := by omega
      simp +contextual -implicitDefEqProofs (maxSteps := 10000000) only [sx_seq, sxL_succ, lpQ_norm, lpQ_exit, lpQ_ret, loopQ_norm, loopQ_exit, loopQ_ret, sqQ_norm, sqQ_ret, sqQ_exit, sx_block, blkQ_norm, blkQ_exit, blkQ_ret, sx_cond, cdP_true, cdP_false, cdP_bool, sx_region, sx_draw, plainD, List.all_cons, List.all_nil, List.isEmpty_nil, List.isEmpty_cons, sxo_nil, sxo_cons, sxo_guard, gdS_bool, gdS_eff, gdS_tup, gdS_sel, gdS_seleff, sxK_def, wcall_some, effP_ret, effP_set, effP_none, effP_ite, wop_call, wop_cv, cvP_func, sx_ret, sx_exit, sx_skip, sx_clr, sx_fresh, stays, ↓selV_wt, ↓selV_wf, ↓impB_wt, ↓impB_wf, ↓selV_nor, ↓impB_nor, ↓selV_nt, ↓selV_nf, ↓impB_nt, ↓impB_nf, wantB_true, wantB_false, ↓selV_true, ↓selV_false, ↓selV_and, ↓impB_true, ↓impB_false, ↓impB_and, impB_triv, valOf_some, retH_some, ↓prim_pick, pickO_true, pickO_false, pickO_and, pickO_or, pickO_andr, pickO_orr, pickO_orrn, pickO_orn, pickO_bb, pickAnd_bool, pickOr_bool, ↓selV_nn, ↓impB_nn, Bool.and_assoc, Bool.or_assoc, doOp, ev_fr, ev_cst, put_none, put_fr, get, ins, del, dels, Nat.reduceLT, Nat.reduceEqDiff, ↓reduceIte, reduceCtorEq, ne_eq, not_false_eq_true, implies_true, framed_pureF, framed_fb, framed_N, framed_pure, wop_prim, prim, YLD, mkA, V.cells, List.getElem?_cons_zero, List.getElem?_cons_succ, List.set_cons_zero, List.set_cons_succ, Nat.zero_add, Nat.add_zero, Nat.reduceAdd, Nat.reduceSub, Nat.reduceMul, Nat.reduceLeDiff, Nat.not_lt_zero, List.map_cons, List.map_nil, List.cons_append, List.nil_append, loadA, cellsAt, nAg, packA, opt_bind_some, opt_map_some, opt_bind_none, opt_map_none, List.drop, List.take, List.head?, List.length_cons, List.length_nil, binA, unA, eqCells, eqCell, negB, fillA, sr_nil, sr_cons, sr_succ, sr_all, sr_len, storeA, Ob.with, indexedI, V.oneCell, intOf?, retQ_ret, retQ_norm, resA, resA1, fr_getD, packR, sealDepth, shut_bool, shut_int, Option.some.injEq, V.bool.injEq, V.int.injEq, Bool.not_true, Bool.not_false, true_and, and_true, and_self, Bool.and_true, Bool.and_false, Bool.true_and, Bool.false_and, Bool.or_true, Bool.or_false, Bool.true_or, Bool.false_or, Bool.false_eq_true, Int.reduceLT, Int.reduceLE, Int.reduceToNat, Int.reduceNeg, shut_plain, freeL_cons, freeL_nil, free_int, free_bool, free_agg, free_str, free_nils, free_tup, free_sl, true_implies, false_implies, Nat.sub_zero, Int.natCast_nonneg, Int.toNat_natCast, Nat.le_refl, not_true_eq_false, Int.reduceAdd, Int.reduceSub, Int.reduceMul, wrap64, false_and, and_false, cond_true, cond_false, Bool.cond_true_left, Bool.cond_false_right, Int.reduceBNe, Int.reduceBEq, decide_true, decide_false, Int.cast_ofNat_Int, Nat.mul_one, eq_self, Bool.true_eq_false, Bool.not_eq_true, Bool.not_eq_false, deads, List.replicate, argsF, hb, w6, g2, c38', c39', b3, beq_self_eq_true, w7, hj1, hj2, eqCells, eqCell]
    · have g2 : decide (ep - 1 + (j : Int) ≤ ep + 1) = false := decide_eq_false hjt
      simp +contextual -implicitDefEqProofs (maxSteps := 10000000) only [sx_seq, sxL_succ, lpQ_norm, lpQ_exit, lpQ_ret, loopQ_norm, loopQ_exit, loopQ_ret, sqQ_norm, sqQ_ret, sqQ_exit, sx_block, blkQ_norm, blkQ_exit, blkQ_ret, sx_cond, cdP_true, cdP_false, cdP_bool, sx_region, sx_draw, plainD, List.all_cons, List.all_nil, List.isEmpty_nil, List.isEmpty_cons, sxo_nil, sxo_cons, sxo_guard, gdS_bool, gdS_eff, gdS_tup, gdS_sel, gdS_seleff, sxK_def, wcall_some, effP_ret, effP_set, effP_none, effP_ite, wop_call, wop_cv, cvP_func, sx_ret, sx_exit, sx_skip, sx_clr, sx_fresh, stays, ↓selV_wt, ↓selV_wf, ↓impB_wt, ↓impB_wf, ↓selV_nor, ↓impB_nor, ↓selV_nt, ↓selV_nf, ↓impB_nt, ↓impB_nf, wantB_true, wantB_false, ↓selV_true, ↓selV_false, ↓selV_and, ↓impB_true, ↓impB_false, ↓impB_and, impB_triv, valOf_some, retH_some, ↓prim_pick, pickO_true, pickO_false, pickO_and, pickO_or, pickO_andr, pickO_orr, pickO_orrn, pickO_orn, pickO_bb, pickAnd_bool, pickOr_bool, ↓selV_nn, ↓impB_nn, Bool.and_assoc, Bool.or_assoc, doOp, ev_fr, ev_cst, put_none, put_fr, get, ins, del, dels, Nat.reduceLT, Nat.reduceEqDiff, ↓reduceIte, reduceCtorEq, ne_eq, not_false_eq_true, implies_true, framed_pureF, framed_fb, framed_N, framed_pure, wop_prim, prim, YLD, mkA, V.cells, List.getElem?_cons_zero, List.getElem?_cons_succ, List.set_cons_zero, List.set_cons_succ, Nat.zero_add, Nat.add_zero, Nat.reduceAdd, Nat.reduceSub, Nat.reduceMul, Nat.reduceLeDiff, Nat.not_lt_zero, List.map_cons, List.map_nil, List.cons_append, List.nil_append, loadA, cellsAt, nAg, packA, opt_bind_some, opt_map_some, opt_bind_none, opt_map_none, List.drop, List.take, List.head?, List.length_cons, List.length_nil, binA, unA, eqCells, eqCell, negB, fillA, sr_nil, sr_cons, sr_succ, sr_all, sr_len, storeA, Ob.with, indexedI, V.oneCell, intOf?, retQ_ret, retQ_norm, resA, resA1, fr_getD, packR, sealDepth, shut_bool, shut_int, Option.some.injEq, V.bool.injEq, V.int.injEq, Bool.not_true, Bool.not_false, true_and, and_true, and_self, Bool.and_true, Bool.and_false, Bool.true_and, Bool.false_and, Bool.or_true, Bool.or_false, Bool.true_or, Bool.false_or, Bool.false_eq_true, Int.reduceLT, Int.reduceLE, Int.reduceToNat, Int.reduceNeg, shut_plain, freeL_cons, freeL_nil, free_int, free_bool, free_agg, free_str, free_nils, free_tup, free_sl, true_implies, false_implies, Nat.sub_zero, Int.natCast_nonneg, Int.toNat_natCast, Nat.le_refl, not_true_eq_false, Int.reduceAdd, Int.reduceSub, Int.reduceMul, wrap64, false_and, and_false, cond_true, cond_false, Bool.cond_true_left, Bool.cond_false_right, Int.reduceBNe, Int.reduceBEq, decide_true, decide_false, Int.cast_ofNat_Int, Nat.mul_one, eq_self, Bool.true_eq_false, Bool.not_eq_true, Bool.not_eq_false, deads, List.replicate, argsF, hb, w6, g2, w4, hi1, hi2]
  · have g1 : decide ((i : Int) - 1 ≤ (D.n : Int)) = false := decide_eq_false hlt
    simp +contextual -implicitDefEqProofs (maxSteps := 10000000) only [sx_seq, sxL_succ, lpQ_norm, lpQ_exit, lpQ_ret, loopQ_norm, loopQ_exit, loopQ_ret, sqQ_norm, sqQ_ret, sqQ_exit, sx_block, blkQ_norm, blkQ_exit, blkQ_ret, sx_cond, cdP_true, cdP_false, cdP_bool, sx_region, sx_draw, plainD, List.all_cons, List.all_nil, List.isEmpty_nil, List.isEmpty_cons, sxo_nil, sxo_cons, sxo_guard, gdS_bool, gdS_eff, gdS_tup, gdS_sel, gdS_seleff, sxK_def, wcall_some, effP_ret, effP_set, effP_none, effP_ite, wop_call, wop_cv, cvP_func, sx_ret, sx_exit, sx_skip, sx_clr, sx_fresh, stays, ↓selV_wt, ↓selV_wf, ↓impB_wt, ↓impB_wf, ↓selV_nor, ↓impB_nor, ↓selV_nt, ↓selV_nf, ↓impB_nt, ↓impB_nf, wantB_true, wantB_false, ↓selV_true, ↓selV_false, ↓selV_and, ↓impB_true, ↓impB_false, ↓impB_and, impB_triv, valOf_some, retH_some, ↓prim_pick, pickO_true, pickO_false, pickO_and, pickO_or, pickO_andr, pickO_orr, pickO_orrn, pickO_orn, pickO_bb, pickAnd_bool, pickOr_bool, ↓selV_nn, ↓impB_nn, Bool.and_assoc, Bool.or_assoc, doOp, ev_fr, ev_cst, put_none, put_fr, get, ins, del, dels, Nat.reduceLT, Nat.reduceEqDiff, ↓reduceIte, reduceCtorEq, ne_eq, not_false_eq_true, implies_true, framed_pureF, framed_fb, framed_N, framed_pure, wop_prim, prim, YLD, mkA, V.cells, List.getElem?_cons_zero, List.getElem?_cons_succ, List.set_cons_zero, List.set_cons_succ, Nat.zero_add, Nat.add_zero, Nat.reduceAdd, Nat.reduceSub, Nat.reduceMul, Nat.reduceLeDiff, Nat.not_lt_zero, List.map_cons, List.map_nil, List.cons_append, List.nil_append, loadA, cellsAt, nAg, packA, opt_bind_some, opt_map_some, opt_bind_none, opt_map_none, List.drop, List.take, List.head?, List.length_cons, List.length_nil, binA, unA, eqCells, eqCell, negB, fillA, sr_nil, sr_cons, sr_succ, sr_all, sr_len, storeA, Ob.with, indexedI, V.oneCell, intOf?, retQ_ret, retQ_norm, resA, resA1, fr_getD, packR, sealDepth, shut_bool, shut_int, Option.some.injEq, V.bool.injEq, V.int.injEq, Bool.not_true, Bool.not_false, true_and, and_true, and_self, Bool.and_true, Bool.and_false, Bool.true_and, Bool.false_and, Bool.or_true, Bool.or_false, Bool.true_or, Bool.false_or, Bool.false_eq_true, Int.reduceLT, Int.reduceLE, Int.reduceToNat, Int.reduceNeg, shut_plain, freeL_cons, freeL_nil, free_int, free_bool, free_agg, free_str, free_nils, free_tup, free_sl, true_implies, false_implies, Nat.sub_zero, Int.natCast_nonneg, Int.toNat_natCast, Nat.le_refl, not_true_eq_false, Int.reduceAdd, Int.reduceSub, Int.reduceMul, wrap64, false_and, and_false, cond_true, cond_false, Bool.cond_true_left, Bool.cond_false_right, Int.reduceBNe, Int.reduceBEq, decide_true, decide_false, Int.cast_ofNat_Int, Nat.mul_one, eq_self, Bool.true_eq_false, Bool.not_eq_true, Bool.not_eq_false, deads, List.replicate, argsF, hb, hrK, lenA, g1]
end Go.Am.T


set_option linter.unusedVariables false
set_option linter.unusedSimpArgs false
set_option maxRecDepth 10000
namespace Go.Am.T
attribute [local congr] selV_congr impB_congr
set_option maxHeartbeats 2000000 in
theorem stands3 {N n : Nat} (hN : 5000 ≤ N) (hn : 6 ≤ n) {H T : Heap} {d so r s e : Nat} {D : Dv} (h : DAt H d so D) (hr : RAt H r s e D) (leave : Int) :
    sx ⟨pureOf am, callA am N n, N, H.length⟩ sD (tS H.length d []) (hS H T r leave zz zz zz zz zz zz zz) fun x t' h' => x = .norm ∧ t' = tS H.length d [] ∧ ∃ x3 x4, h' = hS H T r leave x3 x4 zz zz zz zz zz := by
  have ok := h.ok
  have s4 := ok.s4
  have c11 := fun x K => @num_spec N n (by omega) x K
  have b2 : ∀ x : Int, (x != x) = false := fun x => by simp
  have hI : ∀ i : Int, ∃ (A : List Int) (er : Int), (bif D.isSec i then [secV (D.at i), V.int .i64 0] else [secV zeroS, V.int .i64 2]) = [secV A, V.int .i64 er] ∧ A.length = 64 := fun i => by
    cases g : D.isSec i
    · exact ⟨zeroS, 2, rfl, rfl⟩
    · refine ⟨D.at i, 0, rfl, ?_⟩
      simp only [Dv.isSec, Bool.and_eq_true, decide_eq_true_eq] at g
      exact (sec_at ok g.1 g.2 none).2
  have c26 := fun K (D1 : DAt K d so D) i => @read_spec N n (by omega) K _ _ D1.looks i
  have c40 := fun K (R1 : RAt K r s e D) i => @rread_spec N n (by omega) K _ _ R1.looks i
  unfold tS
  simp +contextual -implicitDefEqProofs (maxSteps := 10000000) only [sx_seq, sxL_succ, lpQ_norm, lpQ_exit, lpQ_ret, loopQ_norm, loopQ_exit, loopQ_ret, sqQ_norm, sqQ_ret, sqQ_exit, sx_block, blkQ_norm, blkQ_exit, blkQ_ret, sx_cond, cdP_true, cdP_false, cdP_bool, sx_region, sx_draw, plainD, List.all_cons, List.all_nil, List.isEmpty_nil, List.isEmpty_cons, sxo_nil, sxo_cons, sxo_guard, gdS_bool, gdS_eff, gdS_tup, gdS_sel, gdS_seleff, sxK_def, wcall_some, effP_ret, effP_set, effP_none, effP_ite, wop_call, wop_cv, cvP_func, sx_ret, sx_exit, sx_skip, sx_clr, sx_fresh, stays, ↓selV_wt, ↓selV_wf, ↓impB_wt, ↓impB_wf, ↓selV_nor, ↓impB_nor, ↓selV_nt, ↓selV_nf, ↓impB_nt, ↓impB_nf, wantB_true, wantB_false, ↓selV_true, ↓selV_false, ↓selV_and, ↓impB_true, ↓impB_false, ↓impB_and, impB_triv, valOf_some, retH_some, ↓prim_pick, pickO_true, pickO_false, pickO_and, pickO_or, pickO_andr, pickO_orr, pickO_orrn, pickO_orn, pickO_bb, pickAnd_bool, pickOr_bool, ↓selV_nn, ↓impB_nn, Bool.and_assoc, Bool.or_assoc, doOp, ev_fr, ev_cst, put_none, put_fr, get, ins, del, dels, Nat.reduceLT, Nat.reduceEqDiff, ↓reduceIte, reduceCtorEq, ne_eq, not_false_eq_true, implies_true, framed_pureF, framed_fb, framed_N, framed_pure, wop_prim, prim, YLD, mkA, V.cells, List.getElem?_cons_zero, List.getElem?_cons_succ, List.set_cons_zero, List.set_cons_succ, Nat.zero_add, Nat.add_zero, Nat.reduceAdd, Nat.reduceSub, Nat.reduceMul, Nat.reduceLeDiff, Nat.not_lt_zero, List.map_cons, List.map_nil, List.cons_append, List.nil_append, loadA, cellsAt, nAg, packA, opt_bind_some, opt_map_some, opt_bind_none, opt_map_none, List.drop, List.take, List.head?, List.length_cons, List.length_nil, binA, unA, eqCells, eqCell, negB, fillA, sr_nil, sr_cons, sr_succ, sr_all, sr_len, storeA, Ob.with, indexedI, V.oneCell, intOf?, retQ_ret, retQ_norm, resA, resA1, fr_getD, packR, sealDepth, shut_bool, shut_int, Option.some.injEq, V.bool.injEq, V.int.injEq, Bool.not_true, Bool.not_false, true_and, and_true, and_self, Bool.and_true, Bool.and_false, Bool.true_and, Bool.false_and, Bool.or_true, Bool.or_false, Bool.true_or, Bool.false_or, Bool.false_eq_true, Int.reduceLT, Int.reduceLE, Int.reduceToNat, Int.reduceNeg, shut_plain, freeL_cons, freeL_nil, free_int, free_bool, free_agg, free_str, free_nils, free_tup, free_sl, true_implies, false_implies, Nat.sub_zero, Int.natCast_nonneg, Int.toNat_natCast, Nat.le_refl, not_true_eq_false, Int.reduceAdd, Int.reduceSub, Int.reduceMul, wrap64, false_and, and_false, cond_true, cond_false, Bool.cond_true_left, Bool.cond_false_right, Int.reduceBNe, Int.reduceBEq, decide_true, decide_false, Int.cast_ofNat_Int, Nat.mul_one, eq_self, Bool.true_eq_false, Bool.not_eq_true, Bool.not_eq_false, deads, List.replicate, argsF, sD]
  refine sx_loop (fun i t k => i ≤ D.S.length + 2 ∧ t = fr 209 [(0, .ptr d 1 0), (4, .ptr H.length 1 0), (5, .ptr (H.length + 1) 1 0), (6, .ptr (H.length + 2) 1 0), (13, .int .i64 ((i : Int) - 1))] ∧ ∃ x3 x4, k = hS H T r leave x3 x4 zz zz zz zz zz) (D.S.length + 2) (by show D.S.length + 2 < N; omega) ⟨Nat.zero_le _, rfl, zz, zz, rfl⟩ ?_
  rintro i t k hi ⟨hi', rfl, x3, x4, rfl⟩
  have D1 : DAt (hS H T r leave x3 x4 zz zz zz zz zz) d so D := h.app _
  have R1 : RAt (hS H T r leave x3 x4 zz zz zz zz zz) r s e D := hr.app _
  obtain ⟨ver, cap, ver', cap', hrK, -, -⟩ := R1.ob
  have e2 : D.rcs (.view s ver 0 D.S.length 64 cap) (.view e ver' 0 D.n 1 cap') = [.view s ver 0 D.S.length 64 cap, .view e ver' 0 D.n 1 cap', .int .i64 D.rl, .bool D.lost, .int .i64 D.done] := rfl
  rw [e2] at hrK
  have hb : (hS H T r leave x3 x4 zz zz zz zz zz)[H.length]? = some ⟨1, .var [.ptr r 1 0]⟩ := hS_get0
  by_cases hlt : (i : Int) - 1 ≤ (D.S.length : Int)
  · have g1 : decide ((i : Int) - 1 ≤ (D.S.length : Int)) = true := decide_eq_true hlt
    have w4 : IntKind.i64.wrap ((i : Int) - 1 + 1) = ((i + 1 : Nat) : Int) - 1 := (wrap64 (by omega) (by omega)).trans (by omega)
    have hi1 : i + 1 ≤ D.S.length + 2 := by omega
    have hi2 : i < D.S.length + 2 := by omega
    have c26' := c26 _ D1 ((i : Int) - 1)
    obtain ⟨A, er, he, hA⟩ := hI ((i : Int) - 1)
    have R2 : RAt (hS H T r leave ⟨x3.ver + 1, .var (A.map (V.int .u8))⟩ x4 zz zz zz zz zz) r s e D := hr.app _
    have hb2 : (hS H T r leave ⟨x3.ver + 1, .var (A.map (V.int .u8))⟩ x4 zz zz zz zz zz)[H.length]? = some ⟨1, .var [.ptr r 1 0]⟩ := hS_get0
    have c40' := c40 _ R2 ((i : Int) - 1)
    rw [he] at c26' c40'
    have lA : (A.map (V.int .u8)).length = 64 := by simp [hA]
    have oA := ints_one .u8 A
    have tA : List.take 64 (A.map (V.int .u8)) = A.map (V.int .u8) := List.take_of_length_le (by omega)
    have eq := @eqCells_ints .u8 64 _ _ hA hA
    simp only [List.replicate, decide_true] at eq
    have cA : (secV A).cells = A.map (V.int .u8) := rfl
    have sr := fun (z : List V) (hz : z.length = 64) => @sr_all z (A.map (V.int .u8)) (by rw [lA, hz])
    clear c26 c40 he hI D1 R1 R2
    unfold secV at c26' c40' cA
    generalize A.map (V.int .u8) = as at *
    unfold hS at *
    simp +contextual -implicitDefEqProofs (maxSteps := 10000000) only [sx_seq, sxL_succ, lpQ_norm, lpQ_exit, lpQ_ret, loopQ_norm, loopQ_exit, loopQ_ret, sqQ_norm, sqQ_ret, sqQ_exit, sx_block, blkQ_norm, blkQ_exit, blkQ_ret, sx_cond, cdP_true, cdP_false, cdP_bool, sx_region, sx_draw, plainD, List.all_cons, List.all_nil, List.isEmpty_nil, List.isEmpty_cons, sxo_nil, sxo_cons, sxo_guard, gdS_bool, gdS_eff, gdS_tup, gdS_sel, gdS_seleff, sxK_def, wcall_some, effP_ret, effP_set, effP_none, effP_ite, wop_call, wop_cv, cvP_func, sx_ret, sx_exit, sx_skip, sx_clr, sx_fresh, stays, ↓selV_wt, ↓selV_wf, ↓impB_wt, ↓impB_wf, ↓selV_nor, ↓impB_nor, ↓selV_nt, ↓selV_nf, ↓impB_nt, ↓impB_nf, wantB_true, wantB_false, ↓selV_true, ↓selV_false, ↓selV_and, ↓impB_true, ↓impB_false, ↓impB_and, impB_triv, valOf_some, retH_some, ↓prim_pick, pickO_true, pickO_false, pickO_and, pickO_or, pickO_andr, pickO_orr, pickO_orrn, pickO_orn, pickO_bb, pickAnd_bool, pickOr_bool, ↓selV_nn, ↓impB_nn, Bool.and_assoc, Bool.or_assoc, doOp, ev_fr, ev_cst, put_none, put_fr, get, ins, del, dels, Nat.reduceLT, Nat.reduceEqDiff, ↓reduceIte, reduceCtorEq, ne_eq, not_false_eq_true, implies_true, framed_pureF, framed_fb, framed_N, framed_pure, wop_prim, prim, YLD, mkA, V.cells, List.getElem?_cons_zero, List.getElem?_cons_succ, List.set_cons_zero, List.set_cons_succ, Nat.zero_add, Nat.add_zero, Nat.reduceAdd, Nat.reduceSub, Nat.reduceMul, Nat.reduceLeDiff, Nat.not_lt_zero, List.map_cons, List.map_nil, List.cons_append, List.nil_append, loadA, cellsAt, nAg, packA, opt_bind_some, opt_map_some, opt_bind_none, opt_map_none, List.drop, List.take, List.head?, List.length_cons, List.length_nil, binA, unA, eqCells, eqCell, negB, fillA, sr_nil, sr_cons, sr_succ, sr_all, sr_len, storeA, Ob.with, indexedI, V.oneCell, intOf?, retQ_ret, retQ_norm, resA, resA1, fr_getD, packR, sealDepth, shut_bool, shut_int, Option.some.injEq, V.bool.injEq, V.int.injEq, Bool.not_true, Bool.not_false, true_and, and_true, and_self, Bool.and_true, Bool.and_false, Bool.true_and, Bool.false_and, Bool.or_true, Bool.or_false, Bool.true_or, Bool.false_or, Bool.false_eq_true, Int.reduceLT, Int.reduceLE, Int.reduceToNat, Int.reduceNeg, shut_plain, freeL_cons, freeL_nil, free_int, free_bool, free_agg, free_str, free_nils, free_tup, free_sl, true_implies, false_implies, Nat.sub_zero, Int.natCast_nonneg, Int.toNat_natCast, Nat.le_refl, not_true_eq_false, Int.reduceAdd, Int.reduceSub, Int.reduceMul, wrap64, false_and, and_false, cond_true, cond_false, Bool.cond_true_left, Bool.cond_false_right, Int.reduceBNe, Int.reduceBEq, decide_true, decide_false, Int.cast_ofNat_Int, Nat.mul_one, eq_self, Bool.true_eq_false, Bool.not_eq_true, Bool.not_eq_false, deads, List.replicate, argsF, hb, hrK, hb2, lenA, g1, c26', c40', b2, c11, pm11, app_get0, app_get, app_set0, app_set, mkA, lA, oA, tA, eq, w4, hi1, hi2, sr]
    exact ⟨_, _, rfl⟩
  · have g1 : decide ((i : Int) - 1 ≤ (D.S.length : Int)) = false := decide_eq_false hlt
    simp +contextual -implicitDefEqProofs (maxSteps := 10000000) only [sx_seq, sxL_succ, lpQ_norm, lpQ_exit, lpQ_ret, loopQ_norm, loopQ_exit, loopQ_ret, sqQ_norm, sqQ_ret, sqQ_exit, sx_block, blkQ_norm, blkQ_exit, blkQ_ret, sx_cond, cdP_true, cdP_false, cdP_bool, sx_region, sx_draw, plainD, List.all_cons, List.all_nil, List.isEmpty_nil, List.isEmpty_cons, sxo_nil, sxo_cons, sxo_guard, gdS_bool, gdS_eff, gdS_tup, gdS_sel, gdS_seleff, sxK_def, wcall_some, effP_ret, effP_set, effP_none, effP_ite, wop_call, wop_cv, cvP_func, sx_ret, sx_exit, sx_skip, sx_clr, sx_fresh, stays, ↓selV_wt, ↓selV_wf, ↓impB_wt, ↓impB_wf, ↓selV_nor, ↓impB_nor, ↓selV_nt, ↓selV_nf, ↓impB_nt, ↓impB_nf, wantB_true, wantB_false, ↓selV_true, ↓selV_false, ↓selV_and, ↓impB_true, ↓impB_false, ↓impB_and, impB_triv, valOf_some, retH_some, ↓prim_pick, pickO_true, pickO_false, pickO_and, pickO_or, pickO_andr, pickO_orr, pickO_orrn, pickO_orn, pickO_bb, pickAnd_bool, pickOr_bool, ↓selV_nn, ↓impB_nn, Bool.and_assoc, Bool.or_assoc, doOp, ev_fr, ev_cst, put_none, put_fr, get, ins, del, dels, Nat.reduceLT, Nat.reduceEqDiff, ↓reduceIte, reduceCtorEq, ne_eq, not_false_eq_true, implies_true, framed_pureF, framed_fb, framed_N, framed_pure, wop_prim, prim, YLD, mkA, V.cells, List.getElem?_cons_zero, List.getElem?_cons_succ, List.set_cons_zero, List.set_cons_succ, Nat.zero_add, Nat.add_zero, Nat.reduceAdd, Nat.reduceSub, Nat.reduceMul, Nat.reduceLeDiff, Nat.not_lt_zero, List.map_cons, List.map_nil, List.cons_append, List.nil_append, loadA, cellsAt, nAg, packA, opt_bind_some, opt_map_some, opt_bind_none, opt_map_none, List.drop, List.take, List.head?, List.length_cons, List.length_nil, binA, unA, eqCells, eqCell, negB, fillA, sr_nil, sr_cons, sr_succ, sr_all, sr_len, storeA, Ob.with, indexedI, V.oneCell, intOf?, retQ_ret, retQ_norm, resA, resA1, fr_getD, packR, sealDepth, shut_bool, shut_int, Option.some.injEq, V.bool.injEq, V.int.injEq, Bool.not_true, Bool.not_false, true_and, and_true, and_self, Bool.and_true, Bool.and_false, Bool.true_and, Bool.false_and, Bool.or_true, Bool.or_false, Bool.true_or, Bool.false_or, Bool.false_eq_true, Int.reduceLT, Int.reduceLE, Int.reduceToNat, Int.reduceNeg, shut_plain, freeL_cons, freeL_nil, free_int, free_bool, free_agg, free_str, free_nils, free_tup, free_sl, true_implies, false_implies, Nat.sub_zero, Int.natCast_nonneg, Int.toNat_natCast, Nat.le_refl, not_true_eq_false, Int.reduceAdd, Int.reduceSub, Int.reduceMul, wrap64, false_and, and_false, cond_true, cond_false, Bool.cond_true_left, Bool.cond_false_right, Int.reduceBNe, Int.reduceBEq, decide_true, decide_false, Int.cast_ofNat_Int, Nat.mul_one, eq_self, Bool.true_eq_false, Bool.not_eq_true, Bool.not_eq_false, deads, List.replicate, argsF, hb, hrK, lenA, g1]
    exact ⟨x3, x4, rfl⟩
end Go.Am.T


set_option linter.unusedVariables false
set_option linter.unusedSimpArgs false
set_option maxRecDepth 10000
namespace Go.Am.T
attribute [local congr] selV_congr impB_congr
theorem hS_app {H T tl : Heap} {r : Nat} {leave : Int} {a b c d e f g : Ob} : hS H T r leave a b c d e f g ++ tl = hS H (T ++ tl) r leave a b c d e f g := by
  simp [hS]
theorem hS_len {H T : Heap} {r : Nat} {leave : Int} {a b c d e f g : Ob} : (hS H T r leave a b c d e f g).length = H.length + 10 + T.length := by
  simp [hS]; omega
def tL (b lo vt vn : Nat) : List V := fr 209 [(4, .ptr b 1 0), (5, .ptr (b + 1) 1 0), (6, .ptr (b + 2) 1 0), (18, .func 59 [] [.ptr lo 1 0]), (19, .ptr (b + 5) vt 0), (20, .ptr (b + 6) vn 0), (144, .func 59 [] [.ptr lo 1 0])]
def InvS (H T : Heap) (r : Nat) (leave : Int) (x3 x4 : Ob) (turn : Int) (vt vn vl : Nat) : Bool → Nat → Heap → Prop
  | true, k, h => ∃ x7, h = hS H T r leave x3 x4 ⟨vt, .var [.int .i64 turn]⟩ ⟨vn, .var [.int .i64 (k : Nat)]⟩ x7 zz ⟨vl, .loop 0 none (tL H.length (H.length + 10 + T.length) vt vn) H.length 12 0⟩
  | false, k, h => ∃ x7, h = hS H T r leave x3 x4 ⟨vt, .var [.int .i64 turn]⟩ ⟨vn, .var [.int .i64 (k : Nat)]⟩ x7 zz ⟨vl, .loop 2 (some (some 8)) (tL H.length (H.length + 10 + T.length) vt vn) H.length 12 0⟩
def stopS (leave turn : Int) (k : Nat) : Bool := (turn == 0) && (((k + 1 : Nat) : Int) == leave)
set_option maxHeartbeats 2000000 in
theorem stands_taker {N n : Nat} (hn : 1 ≤ n) {H T : Heap} {d so r s e : Nat} {D : Dv} (h : DAt H d so D) (hr : RAt H r s e D) (leave : Int) (x3 x4 : Ob) (turn : Int) (vt vn vl : Nat) :
    Taker D d so N n (H.length + 9) vl (H.length + 10 + T.length) (stopS leave turn) (InvS H T r leave x3 x4 turn vt vn vl) := by
  have ok := h.ok
  have s4 := ok.s4
  refine ⟨?_, ?_, ?_⟩
  · rintro (_ | _) k h1 hI <;> obtain ⟨x7, rfl⟩ := hI <;> exact hS_len
  · rintro (_ | _) k h1 hI <;> obtain ⟨x7, rfl⟩ := hI <;> exact h.app _
  · rintro k h1 tl hk ⟨x7, rfl⟩
    obtain ⟨n, rfl⟩ : ∃ m, n = m + 1 := ⟨n - 1, by omega⟩
    have hl : (D.S.getD k zeroS).length = 64 := by
      rw [List.getD_eq_getElem?_getD, List.getElem?_eq_getElem hk]
      exact ok.sec _ (List.getElem_mem hk)
    have hl' : ((D.S.getD k zeroS).map (V.int .u8)).length = 64 := by rw [List.length_map, hl]
    have oa := ints_one .u8 (D.S.getD k zeroS)
    have tk : List.take 64 ((D.S.getD k zeroS).map (V.int .u8)) = (D.S.getD k zeroS).map (V.int .u8) := List.take_of_length_le (by rw [hl']; exact Nat.le_refl _)
    have eq := @eqCells_ints .u8 64 _ _ hl hl
    simp only [List.replicate, decide_true] at eq
    have fa := @flat_at D.S k ok.sec hk
    have fl : (D.S.flatten.map (V.int .u8)).length = D.S.length * 64 := by rw [List.length_map, flat_len ok.sec]
    have le : k * 64 + 64 ≤ D.S.length * 64 := by omega
    obtain ⟨ver, cap, ver', cap', hrK, hsK, -⟩ := hr.ob
    obtain ⟨g3, g4, g5⟩ := hr.lt
    have e2 : D.rcs (.view s ver 0 D.S.length 64 cap) (.view e ver' 0 D.n 1 cap') = [.view s ver 0 D.S.length 64 cap, .view e ver' 0 D.n 1 cap', .int .i64 D.rl, .bool D.lost, .int .i64 D.done] := rfl
    rw [e2] at hrK
    have hrA : ∀ l : Heap, (H ++ l)[r]? = _ := fun l => (List.getElem?_append_left g3).trans hrK
    have hsA : ∀ l : Heap, (H ++ l)[s]? = _ := fun l => (List.getElem?_append_left g4).trans hsK
    have b1 : decide ((k : Int) ≥ (D.S.length : Int)) = false := decide_eq_false (by omega)
    have b2 : ((k : Int) != (k : Int)) = false := by simp
    have w1 : IntKind.i64.wrap ((k : Int) + 1) = ((k + 1 : Nat) : Int) := (wrap64 (by omega) (by omega)).trans (by omega)
    have i0 : (0 : Int) ≤ (k : Int) := by omega
    have i1 : (k : Int) < (D.S.length : Int) := by omega
    have sr := fun (z : List V) (hz : z.length = 64) => @sr_all z ((D.S.getD k zeroS).map (V.int .u8)) (by rw [hl', hz])
    clear hr h hrK hsK e2
    unfold secV
    generalize (D.S.getD k zeroS).map (V.int .u8) = as at *
    generalize D.S.flatten.map (V.int .u8) = F at *
    rw [hS_app]
    cases hs : stopS leave turn k with
    | true =>
      have hs' := hs
      unfold stopS at hs'
      refine ⟨hS H T r leave x3 x4 ⟨vt, .var [.int .i64 turn]⟩ ⟨vn, .var [.int .i64 ((k + 1 : Nat) : Int)]⟩ ⟨x7.ver + 1, .var as⟩ zz ⟨vl, .loop 2 (some (some 8)) (tL H.length (H.length + 10 + T.length) vt vn) H.length 12 0⟩, ?_, ⟨_, rfl⟩⟩
      rw [hS_app]
      unfold hS
      refine call_yld (st := 0) (pd := none) (t := tL H.length (H.length + 10 + T.length) vt vn) (fb := H.length) (f := 12) (k := 0) (af := am12) (ho := by rw [app_get]; rfl) (hp := at12) (hr := rfl) (hl := rfl) ?_
      unfold tL
      simp +contextual -implicitDefEqProofs (maxSteps := 10000000) only [sx_seq, sxL_succ, lpQ_norm, lpQ_exit, lpQ_ret, loopQ_norm, loopQ_exit, loopQ_ret, sqQ_norm, sqQ_ret, sqQ_exit, sx_block, blkQ_norm, blkQ_exit, blkQ_ret, sx_cond, cdP_true, cdP_false, cdP_bool, sx_region, sx_draw, plainD, List.all_cons, List.all_nil, List.isEmpty_nil, List.isEmpty_cons, sxo_nil, sxo_cons, sxo_guard, gdS_bool, gdS_eff, gdS_tup, gdS_sel, gdS_seleff, sxK_def, wcall_some, effP_ret, effP_set, effP_none, effP_ite, wop_call, wop_cv, cvP_func, sx_ret, sx_exit, sx_skip, sx_clr, sx_fresh, stays, ↓selV_wt, ↓selV_wf, ↓impB_wt, ↓impB_wf, ↓selV_nor, ↓impB_nor, ↓selV_nt, ↓selV_nf, ↓impB_nt, ↓impB_nf, wantB_true, wantB_false, ↓selV_true, ↓selV_false, ↓selV_and, ↓impB_true, ↓impB_false, ↓impB_and, impB_triv, valOf_some, retH_some, ↓prim_pick, pickO_true, pickO_false, pickO_and, pickO_or, pickO_andr, pickO_orr, pickO_orrn, pickO_orn, pickO_bb, pickAnd_bool, pickOr_bool, ↓selV_nn, ↓impB_nn, Bool.and_assoc, Bool.or_assoc, doOp, ev_fr, ev_cst, put_none, put_fr, get, ins, del, dels, Nat.reduceLT, Nat.reduceEqDiff, ↓reduceIte, reduceCtorEq, ne_eq, not_false_eq_true, implies_true, framed_pureF, framed_fb, framed_N, framed_pure, wop_prim, prim, YLD, mkA, V.cells, List.getElem?_cons_zero, List.getElem?_cons_succ, List.set_cons_zero, List.set_cons_succ, Nat.zero_add, Nat.add_zero, Nat.reduceAdd, Nat.reduceSub, Nat.reduceMul, Nat.reduceLeDiff, Nat.not_lt_zero, List.map_cons, List.map_nil, List.cons_append, List.nil_append, loadA, cellsAt, nAg, packA, opt_bind_some, opt_map_some, opt_bind_none, opt_map_none, List.drop, List.take, List.head?, List.length_cons, List.length_nil, binA, unA, eqCells, eqCell, negB, fillA, sr_nil, sr_cons, sr_succ, sr_all, sr_len, storeA, Ob.with, indexedI, V.oneCell, intOf?, retQ_ret, retQ_norm, resA, resA1, fr_getD, packR, sealDepth, shut_bool, shut_int, Option.some.injEq, V.bool.injEq, V.int.injEq, Bool.not_true, Bool.not_false, true_and, and_true, and_self, Bool.and_true, Bool.and_false, Bool.true_and, Bool.false_and, Bool.or_true, Bool.or_false, Bool.true_or, Bool.false_or, Bool.false_eq_true, Int.reduceLT, Int.reduceLE, Int.reduceToNat, Int.reduceNeg, shut_plain, freeL_cons, freeL_nil, free_int, free_bool, free_agg, free_str, free_nils, free_tup, free_sl, true_implies, false_implies, Nat.sub_zero, Int.natCast_nonneg, Int.toNat_natCast, Nat.le_refl, not_true_eq_false, Int.reduceAdd, Int.reduceSub, Int.reduceMul, wrap64, false_and, and_false, cond_true, cond_false, Bool.cond_true_left, Bool.cond_false_right, Int.reduceBNe, Int.reduceBEq, decide_true, decide_false, Int.cast_ofNat_Int, Nat.mul_one, eq_self, Bool.true_eq_false, Bool.not_eq_true, Bool.not_eq_false, deads, List.replicate, argsF, setPs_cons, setPs_nil, app_get0, app_get, app_set0, app_set, oa, hl', tk, mkA, sr]
      refine ⟨_, _, _, _, _, rfl, ?_⟩
      simp +contextual -implicitDefEqProofs (maxSteps := 10000000) only [sx_seq, sxL_succ, lpQ_norm, lpQ_exit, lpQ_ret, loopQ_norm, loopQ_exit, loopQ_ret, sqQ_norm, sqQ_ret, sqQ_exit, sx_block, blkQ_norm, blkQ_exit, blkQ_ret, sx_cond, cdP_true, cdP_false, cdP_bool, sx_region, sx_draw, plainD, List.all_cons, List.all_nil, List.isEmpty_nil, List.isEmpty_cons, sxo_nil, sxo_cons, sxo_guard, gdS_bool, gdS_eff, gdS_tup, gdS_sel, gdS_seleff, sxK_def, wcall_some, effP_ret, effP_set, effP_none, effP_ite, wop_call, wop_cv, cvP_func, sx_ret, sx_exit, sx_skip, sx_clr, sx_fresh, stays, ↓selV_wt, ↓selV_wf, ↓impB_wt, ↓impB_wf, ↓selV_nor, ↓impB_nor, ↓selV_nt, ↓selV_nf, ↓impB_nt, ↓impB_nf, wantB_true, wantB_false, ↓selV_true, ↓selV_false, ↓selV_and, ↓impB_true, ↓impB_false, ↓impB_and, impB_triv, valOf_some, retH_some, ↓prim_pick, pickO_true, pickO_false, pickO_and, pickO_or, pickO_andr, pickO_orr, pickO_orrn, pickO_orn, pickO_bb, pickAnd_bool, pickOr_bool, ↓selV_nn, ↓impB_nn, Bool.and_assoc, Bool.or_assoc, doOp, ev_fr, ev_cst, put_none, put_fr, get, ins, del, dels, Nat.reduceLT, Nat.reduceEqDiff, ↓reduceIte, reduceCtorEq, ne_eq, not_false_eq_true, implies_true, framed_pureF, framed_fb, framed_N, framed_pure, wop_prim, prim, YLD, mkA, V.cells, List.getElem?_cons_zero, List.getElem?_cons_succ, List.set_cons_zero, List.set_cons_succ, Nat.zero_add, Nat.add_zero, Nat.reduceAdd, Nat.reduceSub, Nat.reduceMul, Nat.reduceLeDiff, Nat.not_lt_zero, List.map_cons, List.map_nil, List.cons_append, List.nil_append, loadA, cellsAt, nAg, packA, opt_bind_some, opt_map_some, opt_bind_none, opt_map_none, List.drop, List.take, List.head?, List.length_cons, List.length_nil, binA, unA, eqCells, eqCell, negB, fillA, sr_nil, sr_cons, sr_succ, sr_all, sr_len, storeA, Ob.with, indexedI, V.oneCell, intOf?, retQ_ret, retQ_norm, resA, resA1, fr_getD, packR, sealDepth, shut_bool, shut_int, Option.some.injEq, V.bool.injEq, V.int.injEq, Bool.not_true, Bool.not_false, true_and, and_true, and_self, Bool.and_true, Bool.and_false, Bool.true_and, Bool.false_and, Bool.or_true, Bool.or_false, Bool.true_or, Bool.false_or, Bool.false_eq_true, Int.reduceLT, Int.reduceLE, Int.reduceToNat, Int.reduceNeg, shut_plain, freeL_cons, freeL_nil, free_int, free_bool, free_agg, free_str, free_nils, free_tup, free_sl, true_implies, false_implies, Nat.sub_zero, Int.natCast_nonneg, Int.toNat_natCast, Nat.le_refl, not_true_eq_false, Int.reduceAdd, Int.reduceSub, Int.reduceMul, wrap64, false_and, and_false, cond_true, cond_false, Bool.cond_true_left, Bool.cond_false_right, Int.reduceBNe, Int.reduceBEq, decide_true, decide_false, Int.cast_ofNat_Int, Nat.mul_one, eq_self, Bool.true_eq_false, Bool.not_eq_true, Bool.not_eq_false, deads, List.replicate, argsF, app_get0, app_get, app_set0, app_set, oa, hl', tk, hrA, hsA, lenA, b1, b2, eq, iaddrSA, i0, i1, fl, fa, le, w1, Int.toNat_natCast, hs', beq_self_eq_true]
      exact ⟨_, _, _, _, _, _, rfl, rfl, rfl⟩
    | false =>
      have hs' := hs
      unfold stopS at hs'
      refine ⟨hS H T r leave x3 x4 ⟨vt, .var [.int .i64 turn]⟩ ⟨vn, .var [.int .i64 ((k + 1 : Nat) : Int)]⟩ ⟨x7.ver + 1, .var as⟩ zz ⟨vl, .loop 0 none (tL H.length (H.length + 10 + T.length) vt vn) H.length 12 0⟩, ?_, ⟨_, rfl⟩⟩
      rw [hS_app]
      unfold hS
      refine call_yld (st := 0) (pd := none) (t := tL H.length (H.length + 10 + T.length) vt vn) (fb := H.length) (f := 12) (k := 0) (af := am12) (ho := by rw [app_get]; rfl) (hp := at12) (hr := rfl) (hl := rfl) ?_
      unfold tL
      simp +contextual -implicitDefEqProofs (maxSteps := 10000000) only [sx_seq, sxL_succ, lpQ_norm, lpQ_exit, lpQ_ret, loopQ_norm, loopQ_exit, loopQ_ret, sqQ_norm, sqQ_ret, sqQ_exit, sx_block, blkQ_norm, blkQ_exit, blkQ_ret, sx_cond, cdP_true, cdP_false, cdP_bool, sx_region, sx_draw, plainD, List.all_cons, List.all_nil, List.isEmpty_nil, List.isEmpty_cons, sxo_nil, sxo_cons, sxo_guard, gdS_bool, gdS_eff, gdS_tup, gdS_sel, gdS_seleff, sxK_def, wcall_some, effP_ret, effP_set, effP_none, effP_ite, wop_call, wop_cv, cvP_func, sx_ret, sx_exit, sx_skip, sx_clr, sx_fresh, stays, ↓selV_wt, ↓selV_wf, ↓impB_wt, ↓impB_wf, ↓selV_nor, ↓impB_nor, ↓selV_nt, ↓selV_nf, ↓impB_nt, ↓impB_nf, wantB_true, wantB_false, ↓selV_true, ↓selV_false, ↓selV_and, ↓impB_true, ↓impB_false, ↓impB_and, impB_triv, valOf_some, retH_some, ↓prim_pick, pickO_true, pickO_false, pickO_and, pickO_or, pickO_andr, pickO_orr, pickO_orrn, pickO_orn, pickO_bb, pickAnd_bool, pickOr_bool, ↓selV_nn, ↓impB_nn, Bool.and_assoc, Bool.or_assoc, doOp, ev_fr, ev_cst, put_none, put_fr, get, ins, del, dels, Nat.reduceLT, Nat.reduceEqDiff, ↓reduceIte, reduceCtorEq, ne_eq, not_false_eq_true, implies_true, framed_pureF, framed_fb, framed_N, framed_pure, wop_prim, prim, YLD, mkA, V.cells, List.getElem?_cons_zero, List.getElem?_cons_succ, List.set_cons_zero, List.set_cons_succ, Nat.zero_add, Nat.add_zero, Nat.reduceAdd, Nat.reduceSub, Nat.reduceMul, Nat.reduceLeDiff, Nat.not_lt_zero, List.map_cons, List.map_nil, List.cons_append, List.nil_append, loadA, cellsAt, nAg, packA, opt_bind_some, opt_map_some, opt_bind_none, opt_map_none, List.drop, List.take, List.head?, List.length_cons, List.length_nil, binA, unA, eqCells, eqCell, negB, fillA, sr_nil, sr_cons, sr_succ, sr_all, sr_len, storeA, Ob.with, indexedI, V.oneCell, intOf?, retQ_ret, retQ_norm, resA, resA1, fr_getD, packR, sealDepth, shut_bool, shut_int, Option.some.injEq, V.bool.injEq, V.int.injEq, Bool.not_true, Bool.not_false, true_and, and_true, and_self, Bool.and_true, Bool.and_false, Bool.true_and, Bool.false_and, Bool.or_true, Bool.or_false, Bool.true_or, Bool.false_or, Bool.false_eq_true, Int.reduceLT, Int.reduceLE, Int.reduceToNat, Int.reduceNeg, shut_plain, freeL_cons, freeL_nil, free_int, free_bool, free_agg, free_str, free_nils, free_tup, free_sl, true_implies, false_implies, Nat.sub_zero, Int.natCast_nonneg, Int.toNat_natCast, Nat.le_refl, not_true_eq_false, Int.reduceAdd, Int.reduceSub, Int.reduceMul, wrap64, false_and, and_false, cond_true, cond_false, Bool.cond_true_left, Bool.cond_false_right, Int.reduceBNe, Int.reduceBEq, decide_true, decide_false, Int.cast_ofNat_Int, Nat.mul_one, eq_self, Bool.true_eq_false, Bool.not_eq_true, Bool.not_eq_false, deads, List.replicate, argsF, setPs_cons, setPs_nil, app_get0, app_get, app_set0, app_set, oa, hl', tk, mkA, sr]
      refine ⟨_, _, _, _, _, rfl, ?_⟩
      simp +contextual -implicitDefEqProofs (maxSteps := 10000000) only [sx_seq, sxL_succ, lpQ_norm, lpQ_exit, lpQ_ret, loopQ_norm, loopQ_exit, loopQ_ret, sqQ_norm, sqQ_ret, sqQ_exit, sx_block, blkQ_norm, blkQ_exit, blkQ_ret, sx_cond, cdP_true, cdP_false, cdP_bool, sx_region, sx_draw, plainD, List.all_cons, List.all_nil, List.isEmpty_nil, List.isEmpty_cons, sxo_nil, sxo_cons, sxo_guard, gdS_bool, gdS_eff, gdS_tup, gdS_sel, gdS_seleff, sxK_def, wcall_some, effP_ret, effP_set, effP_none, effP_ite, wop_call, wop_cv, cvP_func, sx_ret, sx_exit, sx_skip, sx_clr, sx_fresh, stays, ↓selV_wt, ↓selV_wf, ↓impB_wt, ↓impB_wf, ↓selV_nor, ↓impB_nor, ↓selV_nt, ↓selV_nf, ↓impB_nt, ↓impB_nf, wantB_true, wantB_false, ↓selV_true, ↓selV_false, ↓selV_and, ↓impB_true, ↓impB_false, ↓impB_and, impB_triv, valOf_some, retH_some, ↓prim_pick, pickO_true, pickO_false, pickO_and, pickO_or, pickO_andr, pickO_orr, pickO_orrn, pickO_orn, pickO_bb, pickAnd_bool, pickOr_bool, ↓selV_nn, ↓impB_nn, Bool.and_assoc, Bool.or_assoc, doOp, ev_fr, ev_cst, put_none, put_fr, get, ins, del, dels, Nat.reduceLT, Nat.reduceEqDiff, ↓reduceIte, reduceCtorEq, ne_eq, not_false_eq_true, implies_true, framed_pureF, framed_fb, framed_N, framed_pure, wop_prim, prim, YLD, mkA, V.cells, List.getElem?_cons_zero, List.getElem?_cons_succ, List.set_cons_zero, List.set_cons_succ, Nat.zero_add, Nat.add_zero, Nat.reduceAdd, Nat.reduceSub, Nat.reduceMul, Nat.reduceLeDiff, Nat.not_lt_zero, List.map_cons, List.map_nil, List.cons_append, List.nil_append, loadA, cellsAt, nAg, packA, opt_bind_some, opt_map_some, opt_bind_none, opt_map_none, List.drop, List.take, List.head?, List.length_cons, List.length_nil, binA, unA, eqCells, eqCell, negB, fillA, sr_nil, sr_cons, sr_succ, sr_all, sr_len, storeA, Ob.with, indexedI, V.oneCell, intOf?, retQ_ret, retQ_norm, resA, resA1, fr_getD, packR, sealDepth, shut_bool, shut_int, Option.some.injEq, V.bool.injEq, V.int.injEq, Bool.not_true, Bool.not_false, true_and, and_true, and_self, Bool.and_true, Bool.and_false, Bool.true_and, Bool.false_and, Bool.or_true, Bool.or_false, Bool.true_or, Bool.false_or, Bool.false_eq_true, Int.reduceLT, Int.reduceLE, Int.reduceToNat, Int.reduceNeg, shut_plain, freeL_cons, freeL_nil, free_int, free_bool, free_agg, free_str, free_nils, free_tup, free_sl, true_implies, false_implies, Nat.sub_zero, Int.natCast_nonneg, Int.toNat_natCast, Nat.le_refl, not_true_eq_false, Int.reduceAdd, Int.reduceSub, Int.reduceMul, wrap64, false_and, and_false, cond_true, cond_false, Bool.cond_true_left, Bool.cond_false_right, Int.reduceBNe, Int.reduceBEq, decide_true, decide_false, Int.cast_ofNat_Int, Nat.mul_one, eq_self, Bool.true_eq_false, Bool.not_eq_true, Bool.not_eq_false, deads, List.replicate, argsF, app_get0, app_get, app_set0, app_set, oa, hl', tk, hrA, hsA, lenA, b1, b2, eq, iaddrSA, i0, i1, fl, fa, le, w1, Int.toNat_natCast, hs', beq_self_eq_true]
      exact ⟨_, _, _, _, _, _, rfl, rfl, rfl⟩
end Go.Am.T


set_option linter.unusedVariables false
set_option linter.unusedSimpArgs false
set_option maxRecDepth 10000
namespace Go.Am.T
attribute [local congr] selV_congr impB_congr
theorem blkQ_8 {Q : Post} {pd : Option (Option Nat)} {t : List V} {h : Heap} (hj : jumpE pd = .norm ∨ jumpE pd = .exit 8) : blkQ 8 Q (jumpE pd) t h = Q .norm t h := by
  rcases hj with hj | hj <;> rw [hj] <;> rfl
section
variable {N n : Nat} {H T : Heap} {d so r s e : Nat} {D : Dv}
theorem sturn_one (hN : 5000 ≤ N) (hn : 3 ≤ n) (h : DAt H d so D) (hr : RAt H r s e D) (leave : Int) (x3 x4 x7 : Ob) :
    ∃ (K : Int) (st : Nat) (pd : Option (Option Nat)) (y : Ob), callA am N (n + 1) 59 [.yld (H.length + 9) 1, .ptr (H.length + 10 + T.length) 1 0] (hS H (T ++ [⟨1, .var [.ptr d 1 0]⟩]) r leave x3 x4 ⟨1, .var [.int .i64 0]⟩ ⟨1, .var [.int .i64 0]⟩ x7 zz ⟨1, .loop 0 none (tL H.length (H.length + 10 + T.length) 1 1) H.length 12 0⟩) =
      some (.tup [], hS H (T ++ [⟨1, .var [.ptr d 1 0]⟩]) r leave x3 x4 ⟨1, .var [.int .i64 0]⟩ ⟨1, .var [.int .i64 K]⟩ y zz ⟨1, .loop st pd (tL H.length (H.length + 10 + T.length) 1 1) H.length 12 0⟩) ∧
      st ≠ 1 ∧ (jumpE pd = .norm ∨ jumpE pd = .exit 8) ∧ ((K != (D.S.length : Int)) && (K != leave)) = false := by
  obtain ⟨h', q, K, hc, hI, hall, hleft⟩ := iter_spec hN hn (stands_taker (N := N) (n := n) (by omega) h hr leave x3 x4 0 1 1 1) (hS H T r leave x3 x4 ⟨1, .var [.int .i64 0]⟩ ⟨1, .var [.int .i64 0]⟩ x7 zz ⟨1, .loop 0 none (tL H.length (H.length + 10 + T.length) 1 1) H.length 12 0⟩) [] ⟨x7, rfl⟩
  cases q with
  | true =>
    obtain ⟨y, rfl⟩ := hI
    obtain ⟨rfl, -⟩ := hall rfl
    rw [hS_app, hS_app] at hc
    exact ⟨_, 0, none, y, hc, by decide, .inl rfl, by simp⟩
  | false =>
    obtain ⟨y, rfl⟩ := hI
    obtain ⟨k, rfl, -, hs, -⟩ := hleft rfl
    rw [hS_app, hS_app] at hc
    refine ⟨_, 2, some (some 8), y, hc, by decide, .inr rfl, ?_⟩
    have : ((k + 1 : Nat) : Int) = leave := by simpa [stopS] using hs
    rw [this]
    simp
theorem sturn_two (hN : 5000 ≤ N) (hn : 3 ≤ n) (h : DAt H d so D) (hr : RAt H r s e D) (leave : Int) (x3 x4 x7 : Ob) :
    ∃ (y : Ob), callA am N (n + 1) 59 [.yld (H.length + 9) 2, .ptr (H.length + 10 + T.length) 1 0] (hS H (T ++ [⟨1, .var [.ptr d 1 0]⟩]) r leave x3 x4 ⟨2, .var [.int .i64 1]⟩ ⟨2, .var [.int .i64 0]⟩ x7 zz ⟨2, .loop 0 none (tL H.length (H.length + 10 + T.length) 2 2) H.length 12 0⟩) =
      some (.tup [], hS H (T ++ [⟨1, .var [.ptr d 1 0]⟩]) r leave x3 x4 ⟨2, .var [.int .i64 1]⟩ ⟨2, .var [.int .i64 D.S.length]⟩ y zz ⟨2, .loop 0 none (tL H.length (H.length + 10 + T.length) 2 2) H.length 12 0⟩) := by
  obtain ⟨h', q, K, hc, hI, hall, hleft⟩ := iter_spec hN hn (stands_taker (N := N) (n := n) (by omega) h hr leave x3 x4 1 2 2 2) (hS H T r leave x3 x4 ⟨2, .var [.int .i64 1]⟩ ⟨2, .var [.int .i64 0]⟩ x7 zz ⟨2, .loop 0 none (tL H.length (H.length + 10 + T.length) 2 2) H.length 12 0⟩) [] ⟨x7, rfl⟩
  cases q with
  | true =>
    obtain ⟨y, rfl⟩ := hI
    obtain ⟨rfl, -⟩ := hall rfl
    rw [hS_app, hS_app] at hc
    exact ⟨y, hc⟩
  | false =>
    obtain ⟨k, rfl, -, hs, -⟩ := hleft rfl
    simp [stopS] at hs
end
def sZ : ACode := (.seq (.seq (.region [⟨some 136, (.move (.tmp 0)), none⟩, ⟨some 137, (.call 41 [(.tmp 136)]), none⟩, ⟨some 18, (.move (.tmp 137)), none⟩]) (.clr [137, 136, 0])) (.seq (.seq (.seq (.region [⟨some 138, (.move (.tmp 18)), none⟩, ⟨some 139, (.eqnil false NK.f (.tmp 138)), none⟩]) (.clr [138])) (.cond (.tmp 139) (.seq (.clr [146, 145, 139, 18, 5, 4]) (.seq (.region [⟨none, (.store 1 (.tmp 6) (.cst (.bool false))), none⟩]) .ret)) (.seq (.clr [139]) .skip))) (.seq (.seq (.region [⟨some 19, (.allocz 5 [(.int .i64 0)]), none⟩, ⟨none, (.store 1 (.tmp 19) (.cst (.int .i64 0))), none⟩]) (.block 6 (.loop [] [] (.seq (.seq (.seq (.region [⟨some 140, (.load none (.tmp 19)), none⟩, ⟨some 141, (.bin .lss (.tmp 140) (.cst (.int .i64 2))), none⟩]) (.clr [140])) (.cond (.tmp 141) (.seq (.clr [141]) .skip) (.seq (.clr [146, 145, 141, 19, 18, 5, 4]) (.exit 6)))) (.seq (.block 7 (.seq (.region [⟨some 20, (.allocz 6 [(.int .i64 0)]), none⟩, ⟨none, (.store 1 (.tmp 20) (.cst (.int .i64 0))), none⟩]) (.seq (.seq (.region [⟨some 144, (.move (.tmp 18)), none⟩]) (.block 8 (.rangeF (.tmp 144) [145, 146] (.seq (.seq (.region [⟨some 21, (.move (.tmp 145)), none⟩]) (.clr [145])) (.seq (.region [⟨some 22, (.allocz 7 [(.int .u8 0), (.int .u8 0), (.int .u8 0), (.int .u8 0), (.int .u8 0), (.int .u8 0), (.int .u8 0), (.int .u8 0), (.int .u8 0), (.int .u8 0), (.int .u8 0), (.int .u8 0), (.int .u8 0), (.int .u8 0), (.int .u8 0), (.int .u8 0), (.int .u8 0), (.int .u8 0), (.int .u8 0), (.int .u8 0), (.int .u8 0), (.int .u8 0), (.int .u8 0), (.int .u8 0), (.int .u8 0), (.int .u8 0), (.int .u8 0), (.int .u8 0), (.int .u8 0), (.int .u8 0), (.int .u8 0), (.int .u8 0), (.int .u8 0), (.int .u8 0), (.int .u8 0), (.int .u8 0), (.int .u8 0), (.int .u8 0), (.int .u8 0), (.int .u8 0), (.int .u8 0), (.int .u8 0), (.int .u8 0), (.int .u8 0), (.int .u8 0), (.int .u8 0), (.int .u8 0), (.int .u8 0), (.int .u8 0), (.int .u8 0), (.int .u8 0), (.int .u8 0), (.int .u8 0), (.int .u8 0), (.int .u8 0), (.int .u8 0), (.int .u8 0), (.int .u8 0), (.int .u8 0), (.int .u8 0), (.int .u8 0), (.int .u8 0), (.int .u8 0), (.int .u8 0)]), none⟩, ⟨none, (.store 64 (.tmp 22) (.tmp 146)), none⟩]) (.clr [146]))) (.block 9 (.seq (.seq (.seq (.region [⟨some 147, (.move (.tmp 21)), none⟩, ⟨some 148, (.load none (.tmp 20)), none⟩, ⟨some 149, (.bin .neq (.tmp 147) (.tmp 148)), none⟩, ⟨some 150, (.move (.tmp 149)), none⟩, ⟨some 151, (.load none (.tmp 20)), some (150, false)⟩, ⟨some 152, (.load none (.tmp 4)), some (150, false)⟩, ⟨some 153, (.nilck (.tmp 152)), some (150, false)⟩, ⟨some 154, (.faddr 0 (.tmp 153)), some (150, false)⟩, ⟨some 155, (.load none (.tmp 154)), some (150, false)⟩, ⟨some 156, (.lenS (.tmp 155)), some (150, false)⟩, ⟨some 157, (.bin .geq (.tmp 151) (.tmp 156)), some (150, false)⟩, ⟨some 158, (.pick (.tmp 150) (.cst (.bool true)) (.tmp 157)), none⟩, ⟨some 159, (.move (.tmp 158)), none⟩, ⟨some 160, (.load (some 64) (.tmp 22)), some (159, false)⟩, ⟨some 161, (.load none (.tmp 4)), some (159, false)⟩, ⟨some 162, (.nilck (.tmp 161)), some (159, false)⟩, ⟨some 163, (.faddr 0 (.tmp 162)), some (159, false)⟩, ⟨some 164, (.load none (.tmp 163)), some (159, false)⟩, ⟨some 165, (.load none (.tmp 20)), some (159, false)⟩, ⟨some 166, (.iaddrS 64 (.tmp 164) (.tmp 165)), some (159, false)⟩, ⟨some 167, (.load (some 64) (.tmp 166)), some (159, false)⟩, ⟨some 168, (.eqc true true [(.i .u8), (.i .u8), (.i .u8), (.i .u8), (.i .u8), (.i .u8), (.i .u8), (.i .u8), (.i .u8), (.i .u8), (.i .u8), (.i .u8), (.i .u8), (.i .u8), (.i .u8), (.i .u8), (.i .u8), (.i .u8), (.i .u8), (.i .u8), (.i .u8), (.i .u8), (.i .u8), (.i .u8), (.i .u8), (.i .u8), (.i .u8), (.i .u8), (.i .u8), (.i .u8), (.i .u8), (.i .u8), (.i .u8), (.i .u8), (.i .u8), (.i .u8), (.i .u8), (.i .u8), (.i .u8), (.i .u8), (.i .u8), (.i .u8), (.i .u8), (.i .u8), (.i .u8), (.i .u8), (.i .u8), (.i .u8), (.i .u8), (.i .u8), (.i .u8), (.i .u8), (.i .u8), (.i .u8), (.i .u8), (.i .u8), (.i .u8), (.i .u8), (.i .u8), (.i .u8), (.i .u8), (.i .u8), (.i .u8), (.i .u8)] (.tmp 160) (.tmp 167)), some (159, false)⟩, ⟨some 169, (.pick (.tmp 159) (.cst (.bool true)) (.tmp 168)), none⟩]) (.clr [168, 167, 166, 165, 164, 163, 162, 161, 160, 159, 158, 157, 156, 155, 154, 153, 152, 151, 150, 149, 148, 147, 22, 21, 4])) (.cond (.tmp 169) (.seq (.clr [169, 20, 19, 5]) (.seq (.seq (.region [⟨none, (.store 1 (.tmp 6) (.cst (.bool false))), none⟩]) (.clr [6])) .ret)) (.seq (.clr [169, 6]) .skip))) (.seq (.seq (.region [⟨some 170, (.load none (.tmp 20)), none⟩, ⟨some 171, (.bin .add (.tmp 170) (.cst (.int .i64 1))), none⟩, ⟨none, (.store 1 (.tmp 20) (.tmp 171)), none⟩]) (.clr [171, 170])) (.seq (.seq (.region [⟨some 172, (.load none (.tmp 19)), none⟩, ⟨some 173, (.bin .eql (.tmp 172) (.cst (.int .i64 0))), none⟩, ⟨some 174, (.move (.tmp 173)), none⟩, ⟨some 175, (.load none (.tmp 20)), some (174, true)⟩, ⟨some 176, (.load none (.tmp 5)), some (174, true)⟩, ⟨some 177, (.bin .eql (.tmp 175) (.tmp 176)), some (174, true)⟩, ⟨some 178, (.pick (.tmp 174) (.tmp 177) (.cst (.bool false))), none⟩]) (.clr [177, 176, 175, 174, 173, 172, 20, 19, 5])) (.cond (.tmp 178) (.seq (.clr [178]) (.exit 8)) (.seq (.clr [178]) .skip)))))) 12 0 9))) (.seq (.seq (.region [⟨some 179, (.load none (.tmp 19)), none⟩, ⟨some 180, (.bin .eql (.tmp 179) (.cst (.int .i64 1))), none⟩, ⟨some 181, (.move (.tmp 180)), none⟩, ⟨some 182, (.load none (.tmp 20)), some (181, true)⟩, ⟨some 183, (.load none (.tmp 4)), some (181, true)⟩, ⟨some 184, (.nilck (.tmp 183)), some (181, true)⟩, ⟨some 185, (.faddr 0 (.tmp 184)), some (181, true)⟩, ⟨some 186, (.load none (.tmp 185)), some (181, true)⟩, ⟨some 187, (.lenS (.tmp 186)), some (181, true)⟩, ⟨some 188, (.bin .neq (.tmp 182) (.tmp 187)), some (181, true)⟩, ⟨some 189, (.pick (.tmp 181) (.tmp 188) (.cst (.bool false))), none⟩, ⟨some 190, (.move (.tmp 189)), none⟩, ⟨some 191, (.load none (.tmp 19)), some (190, false)⟩, ⟨some 192, (.bin .eql (.tmp 191) (.cst (.int .i64 0))), some (190, false)⟩, ⟨some 193, (.move (.tmp 192)), some (190, false)⟩, ⟨some 194, (.load none (.tmp 20)), some (193, true)⟩, ⟨some 195, (.load none (.tmp 4)), some (193, true)⟩, ⟨some 196, (.nilck (.tmp 195)), some (193, true)⟩, ⟨some 197, (.faddr 0 (.tmp 196)), some (193, true)⟩, ⟨some 198, (.load none (.tmp 197)), some (193, true)⟩, ⟨some 199, (.lenS (.tmp 198)), some (193, true)⟩, ⟨some 200, (.bin .neq (.tmp 194) (.tmp 199)), some (193, true)⟩, ⟨some 201, (.pick (.tmp 193) (.tmp 200) (.cst (.bool false))), some (190, false)⟩, ⟨some 202, (.move (.tmp 201)), some (190, false)⟩, ⟨some 203, (.load none (.tmp 20)), some (202, true)⟩, ⟨some 204, (.load none (.tmp 5)), some (202, true)⟩, ⟨some 205, (.bin .neq (.tmp 203) (.tmp 204)), some (202, true)⟩, ⟨some 206, (.pick (.tmp 202) (.tmp 205) (.cst (.bool false))), some (190, false)⟩, ⟨some 207, (.pick (.tmp 190) (.cst (.bool true)) (.tmp 206)), none⟩]) (.clr [206, 205, 204, 203, 202, 201, 200, 199, 198, 197, 196, 195, 194, 193, 192, 191, 190, 189, 188, 187, 186, 185, 184, 183, 182, 181, 180, 179, 20])) (.cond (.tmp 207) (.seq (.clr [207, 146, 145, 19, 18, 5, 4]) (.seq (.region [⟨none, (.store 1 (.tmp 6) (.cst (.bool false))), none⟩]) .ret)) (.seq (.clr [207]) .skip)))))) (.seq (.seq (.seq (.region [⟨some 208, (.load none (.tmp 19)), none⟩]) (.clr [19])) (.seq (.region [⟨some 19, (.allocz 5 [(.int .i64 0)]), none⟩, ⟨none, (.store 1 (.tmp 19) (.tmp 208)), none⟩]) (.clr [208]))) (.seq (.region [⟨some 142, (.load none (.tmp 19)), none⟩, ⟨some 143, (.bin .add (.tmp 142) (.cst (.int .i64 1))), none⟩, ⟨none, (.store 1 (.tmp 19) (.tmp 143)), none⟩]) (.clr [143, 142])))))))) (.seq (.region [⟨none, (.store 1 (.tmp 6) (.cst (.bool true))), none⟩]) .ret))))
set_option maxHeartbeats 4000000 in
theorem stands4 {N n : Nat} (hN : 5000 ≤ N) (hn : 5 ≤ n) {H T : Heap} {d so r s e : Nat} {D : Dv} (h : DAt H d so D) (hr : RAt H r s e D) (leave : Int) (x3 x4 : Ob) :
    sx ⟨pureOf am, callA am N n, N, H.length⟩ sZ (tS H.length d []) (hS H T r leave x3 x4 zz zz zz zz zz) (retQ am12.res fun x h' => x = .bool true ∧ ∃ L, h' = H ++ L) := by
  obtain ⟨n, rfl⟩ : ∃ m, n = m + 1 := ⟨n - 1, by omega⟩
  have c41 := fun K => @all_spec N (n + 1) (by omega) (.ptr d 1 0) (fun _ => V.noConfusion) V.noConfusion rfl rfl K
  obtain ⟨K1, st, pd, y, hc, hst, hj, hcd⟩ := @sturn_one N n H T d so r s e D hN (by omega) h hr leave x3 x4 zz
  obtain ⟨y2, hc2⟩ := @sturn_two N n H T d so r s e D hN (by omega) h hr leave x3 x4 y
  obtain ⟨ver, cap, ver', cap', hrK, hsK, -⟩ := hr.ob
  obtain ⟨g3, g4, g5⟩ := hr.lt
  have e2 : D.rcs (.view s ver 0 D.S.length 64 cap) (.view e ver' 0 D.n 1 cap') = [.view s ver 0 D.S.length 64 cap, .view e ver' 0 D.n 1 cap', .int .i64 D.rl, .bool D.lost, .int .i64 D.done] := rfl
  rw [e2] at hrK
  have hrA : ∀ l : Heap, (H ++ l)[r]? = _ := fun l => (List.getElem?_append_left g3).trans hrK
  have b2 : ∀ x : Int, (x != x) = false := fun x => by simp
  have lS : (hS H T r leave x3 x4 zz zz zz zz zz).length = H.length + 10 + T.length := hS_len
  have c41' := c41 (hS H T r leave x3 x4 zz zz zz zz zz)
  rw [hS_app, lS] at c41'
  clear c41 lS h hr hrK hsK e2
  unfold hS zz tL at *
  unfold tS
  simp +contextual -implicitDefEqProofs (maxSteps := 10000000) only [sx_seq, sxL_succ, lpQ_norm, lpQ_exit, lpQ_ret, loopQ_norm, loopQ_exit, loopQ_ret, sqQ_norm, sqQ_ret, sqQ_exit, sx_block, blkQ_norm, blkQ_exit, blkQ_ret, sx_cond, cdP_true, cdP_false, cdP_bool, sx_region, sx_draw, plainD, List.all_cons, List.all_nil, List.isEmpty_nil, List.isEmpty_cons, sxo_nil, sxo_cons, sxo_guard, gdS_bool, gdS_eff, gdS_tup, gdS_sel, gdS_seleff, sxK_def, wcall_some, effP_ret, effP_set, effP_none, effP_ite, wop_call, wop_cv, cvP_func, sx_ret, sx_exit, sx_skip, sx_clr, sx_fresh, stays, ↓selV_wt, ↓selV_wf, ↓impB_wt, ↓impB_wf, ↓selV_nor, ↓impB_nor, ↓selV_nt, ↓selV_nf, ↓impB_nt, ↓impB_nf, wantB_true, wantB_false, ↓selV_true, ↓selV_false, ↓selV_and, ↓impB_true, ↓impB_false, ↓impB_and, impB_triv, valOf_some, retH_some, ↓prim_pick, pickO_true, pickO_false, pickO_and, pickO_or, pickO_andr, pickO_orr, pickO_orrn, pickO_orn, pickO_bb, pickAnd_bool, pickOr_bool, ↓selV_nn, ↓impB_nn, Bool.and_assoc, Bool.or_assoc, doOp, ev_fr, ev_cst, put_none, put_fr, get, ins, del, dels, Nat.reduceLT, Nat.reduceEqDiff, ↓reduceIte, reduceCtorEq, ne_eq, not_false_eq_true, implies_true, framed_pureF, framed_fb, framed_N, framed_pure, wop_prim, prim, YLD, mkA, V.cells, List.getElem?_cons_zero, List.getElem?_cons_succ, List.set_cons_zero, List.set_cons_succ, Nat.zero_add, Nat.add_zero, Nat.reduceAdd, Nat.reduceSub, Nat.reduceMul, Nat.reduceLeDiff, Nat.not_lt_zero, List.map_cons, List.map_nil, List.cons_append, List.nil_append, loadA, cellsAt, nAg, packA, opt_bind_some, opt_map_some, opt_bind_none, opt_map_none, List.drop, List.take, List.head?, List.length_cons, List.length_nil, binA, unA, eqCells, eqCell, negB, fillA, sr_nil, sr_cons, sr_succ, sr_all, sr_len, storeA, Ob.with, indexedI, V.oneCell, intOf?, retQ_ret, retQ_norm, resA, resA1, fr_getD, packR, sealDepth, shut_bool, shut_int, Option.some.injEq, V.bool.injEq, V.int.injEq, Bool.not_true, Bool.not_false, true_and, and_true, and_self, Bool.and_true, Bool.and_false, Bool.true_and, Bool.false_and, Bool.or_true, Bool.or_false, Bool.true_or, Bool.false_or, Bool.false_eq_true, Int.reduceLT, Int.reduceLE, Int.reduceToNat, Int.reduceNeg, shut_plain, freeL_cons, freeL_nil, free_int, free_bool, free_agg, free_str, free_nils, free_tup, free_sl, true_implies, false_implies, Nat.sub_zero, Int.natCast_nonneg, Int.toNat_natCast, Nat.le_refl, not_true_eq_false, Int.reduceAdd, Int.reduceSub, Int.reduceMul, wrap64, false_and, and_false, cond_true, cond_false, Bool.cond_true_left, Bool.cond_false_right, Int.reduceBNe, Int.reduceBEq, decide_true, decide_false, Int.cast_ofNat_Int, Nat.mul_one, eq_self, Bool.true_eq_false, Bool.not_eq_true, Bool.not_eq_false, deads, List.replicate, argsF, sZ, c41', isNil, app_get0, app_get, app_set0, app_set, mkA]
  refine sx_unroll 3 (by show 3 ≤ N; omega) ?_
  simp +contextual -implicitDefEqProofs (maxSteps := 10000000) only [sx_seq, sxL_succ, lpQ_norm, lpQ_exit, lpQ_ret, loopQ_norm, loopQ_exit, loopQ_ret, sqQ_norm, sqQ_ret, sqQ_exit, sx_block, blkQ_norm, blkQ_exit, blkQ_ret, sx_cond, cdP_true, cdP_false, cdP_bool, sx_region, sx_draw, plainD, List.all_cons, List.all_nil, List.isEmpty_nil, List.isEmpty_cons, sxo_nil, sxo_cons, sxo_guard, gdS_bool, gdS_eff, gdS_tup, gdS_sel, gdS_seleff, sxK_def, wcall_some, effP_ret, effP_set, effP_none, effP_ite, wop_call, wop_cv, cvP_func, sx_ret, sx_exit, sx_skip, sx_clr, sx_fresh, stays, ↓selV_wt, ↓selV_wf, ↓impB_wt, ↓impB_wf, ↓selV_nor, ↓impB_nor, ↓selV_nt, ↓selV_nf, ↓impB_nt, ↓impB_nf, wantB_true, wantB_false, ↓selV_true, ↓selV_false, ↓selV_and, ↓impB_true, ↓impB_false, ↓impB_and, impB_triv, valOf_some, retH_some, ↓prim_pick, pickO_true, pickO_false, pickO_and, pickO_or, pickO_andr, pickO_orr, pickO_orrn, pickO_orn, pickO_bb, pickAnd_bool, pickOr_bool, ↓selV_nn, ↓impB_nn, Bool.and_assoc, Bool.or_assoc, doOp, ev_fr, ev_cst, put_none, put_fr, get, ins, del, dels, Nat.reduceLT, Nat.reduceEqDiff, ↓reduceIte, reduceCtorEq, ne_eq, not_false_eq_true, implies_true, framed_pureF, framed_fb, framed_N, framed_pure, wop_prim, prim, YLD, mkA, V.cells, List.getElem?_cons_zero, List.getElem?_cons_succ, List.set_cons_zero, List.set_cons_succ, Nat.zero_add, Nat.add_zero, Nat.reduceAdd, Nat.reduceSub, Nat.reduceMul, Nat.reduceLeDiff, Nat.not_lt_zero, List.map_cons, List.map_nil, List.cons_append, List.nil_append, loadA, cellsAt, nAg, packA, opt_bind_some, opt_map_some, opt_bind_none, opt_map_none, List.drop, List.take, List.head?, List.length_cons, List.length_nil, binA, unA, eqCells, eqCell, negB, fillA, sr_nil, sr_cons, sr_succ, sr_all, sr_len, storeA, Ob.with, indexedI, V.oneCell, intOf?, retQ_ret, retQ_norm, resA, resA1, fr_getD, packR, sealDepth, shut_bool, shut_int, Option.some.injEq, V.bool.injEq, V.int.injEq, Bool.not_true, Bool.not_false, true_and, and_true, and_self, Bool.and_true, Bool.and_false, Bool.true_and, Bool.false_and, Bool.or_true, Bool.or_false, Bool.true_or, Bool.false_or, Bool.false_eq_true, Int.reduceLT, Int.reduceLE, Int.reduceToNat, Int.reduceNeg, shut_plain, freeL_cons, freeL_nil, free_int, free_bool, free_agg, free_str, free_nils, free_tup, free_sl, true_implies, false_implies, Nat.sub_zero, Int.natCast_nonneg, Int.toNat_natCast, Nat.le_refl, not_true_eq_false, Int.reduceAdd, Int.reduceSub, Int.reduceMul, wrap64, false_and, and_false, cond_true, cond_false, Bool.cond_true_left, Bool.cond_false_right, Int.reduceBNe, Int.reduceBEq, decide_true, decide_false, Int.cast_ofNat_Int, Nat.mul_one, eq_self, Bool.true_eq_false, Bool.not_eq_true, Bool.not_eq_false, deads, List.replicate, argsF, app_get0, app_get, app_set0, app_set, mkA]
  refine sx_rangeF (x := ⟨0, .dead⟩) (g := 59) (xs := []) (ys := [.ptr (H.length + 10 + T.length) 1 0]) (by rw [app_get]; rfl) rfl (by simp only [app_set, List.set_cons_succ, List.set_cons_zero]; exact hc) (by rw [app_get]; rfl) hst ?_
  rw [blkQ_8 hj]
  simp +contextual -implicitDefEqProofs (maxSteps := 10000000) only [sx_seq, sxL_succ, lpQ_norm, lpQ_exit, lpQ_ret, loopQ_norm, loopQ_exit, loopQ_ret, sqQ_norm, sqQ_ret, sqQ_exit, sx_block, blkQ_norm, blkQ_exit, blkQ_ret, sx_cond, cdP_true, cdP_false, cdP_bool, sx_region, sx_draw, plainD, List.all_cons, List.all_nil, List.isEmpty_nil, List.isEmpty_cons, sxo_nil, sxo_cons, sxo_guard, gdS_bool, gdS_eff, gdS_tup, gdS_sel, gdS_seleff, sxK_def, wcall_some, effP_ret, effP_set, effP_none, effP_ite, wop_call, wop_cv, cvP_func, sx_ret, sx_exit, sx_skip, sx_clr, sx_fresh, stays, ↓selV_wt, ↓selV_wf, ↓impB_wt, ↓impB_wf, ↓selV_nor, ↓impB_nor, ↓selV_nt, ↓selV_nf, ↓impB_nt, ↓impB_nf, wantB_true, wantB_false, ↓selV_true, ↓selV_false, ↓selV_and, ↓impB_true, ↓impB_false, ↓impB_and, impB_triv, valOf_some, retH_some, ↓prim_pick, pickO_true, pickO_false, pickO_and, pickO_or, pickO_andr, pickO_orr, pickO_orrn, pickO_orn, pickO_bb, pickAnd_bool, pickOr_bool, ↓selV_nn, ↓impB_nn, Bool.and_assoc, Bool.or_assoc, doOp, ev_fr, ev_cst, put_none, put_fr, get, ins, del, dels, Nat.reduceLT, Nat.reduceEqDiff, ↓reduceIte, reduceCtorEq, ne_eq, not_false_eq_true, implies_true, framed_pureF, framed_fb, framed_N, framed_pure, wop_prim, prim, YLD, mkA, V.cells, List.getElem?_cons_zero, List.getElem?_cons_succ, List.set_cons_zero, List.set_cons_succ, Nat.zero_add, Nat.add_zero, Nat.reduceAdd, Nat.reduceSub, Nat.reduceMul, Nat.reduceLeDiff, Nat.not_lt_zero, List.map_cons, List.map_nil, List.cons_append, List.nil_append, loadA, cellsAt, nAg, packA, opt_bind_some, opt_map_some, opt_bind_none, opt_map_none, List.drop, List.take, List.head?, List.length_cons, List.length_nil, binA, unA, eqCells, eqCell, negB, fillA, sr_nil, sr_cons, sr_succ, sr_all, sr_len, storeA, Ob.with, indexedI, V.oneCell, intOf?, retQ_ret, retQ_norm, resA, resA1, fr_getD, packR, sealDepth, shut_bool, shut_int, Option.some.injEq, V.bool.injEq, V.int.injEq, Bool.not_true, Bool.not_false, true_and, and_true, and_self, Bool.and_true, Bool.and_false, Bool.true_and, Bool.false_and, Bool.or_true, Bool.or_false, Bool.true_or, Bool.false_or, Bool.false_eq_true, Int.reduceLT, Int.reduceLE, Int.reduceToNat, Int.reduceNeg, shut_plain, freeL_cons, freeL_nil, free_int, free_bool, free_agg, free_str, free_nils, free_tup, free_sl, true_implies, false_implies, Nat.sub_zero, Int.natCast_nonneg, Int.toNat_natCast, Nat.le_refl, not_true_eq_false, Int.reduceAdd, Int.reduceSub, Int.reduceMul, wrap64, false_and, and_false, cond_true, cond_false, Bool.cond_true_left, Bool.cond_false_right, Int.reduceBNe, Int.reduceBEq, decide_true, decide_false, Int.cast_ofNat_Int, Nat.mul_one, eq_self, Bool.true_eq_false, Bool.not_eq_true, Bool.not_eq_false, deads, List.replicate, argsF, app_get0, app_get, app_set0, app_set, mkA, hrA, lenA, hcd]
  refine sx_rangeF (x := ⟨1, .dead⟩) (g := 59) (xs := []) (ys := [.ptr (H.length + 10 + T.length) 1 0]) (by rw [app_get]; rfl) rfl (by simp only [app_set, List.set_cons_succ, List.set_cons_zero]; exact hc2) (by rw [app_get]; rfl) (st := 0) (by decide) ?_
  simp +contextual -implicitDefEqProofs (maxSteps := 10000000) only [sx_seq, sxL_succ, lpQ_norm, lpQ_exit, lpQ_ret, loopQ_norm, loopQ_exit, loopQ_ret, sqQ_norm, sqQ_ret, sqQ_exit, sx_block, blkQ_norm, blkQ_exit, blkQ_ret, sx_cond, cdP_true, cdP_false, cdP_bool, sx_region, sx_draw, plainD, List.all_cons, List.all_nil, List.isEmpty_nil, List.isEmpty_cons, sxo_nil, sxo_cons, sxo_guard, gdS_bool, gdS_eff, gdS_tup, gdS_sel, gdS_seleff, sxK_def, wcall_some, effP_ret, effP_set, effP_none, effP_ite, wop_call, wop_cv, cvP_func, sx_ret, sx_exit, sx_skip, sx_clr, sx_fresh, stays, ↓selV_wt, ↓selV_wf, ↓impB_wt, ↓impB_wf, ↓selV_nor, ↓impB_nor, ↓selV_nt, ↓selV_nf, ↓impB_nt, ↓impB_nf, wantB_true, wantB_false, ↓selV_true, ↓selV_false, ↓selV_and, ↓impB_true, ↓impB_false, ↓impB_and, impB_triv, valOf_some, retH_some, ↓prim_pick, pickO_true, pickO_false, pickO_and, pickO_or, pickO_andr, pickO_orr, pickO_orrn, pickO_orn, pickO_bb, pickAnd_bool, pickOr_bool, ↓selV_nn, ↓impB_nn, Bool.and_assoc, Bool.or_assoc, doOp, ev_fr, ev_cst, put_none, put_fr, get, ins, del, dels, Nat.reduceLT, Nat.reduceEqDiff, ↓reduceIte, reduceCtorEq, ne_eq, not_false_eq_true, implies_true, framed_pureF, framed_fb, framed_N, framed_pure, wop_prim, prim, YLD, mkA, V.cells, List.getElem?_cons_zero, List.getElem?_cons_succ, List.set_cons_zero, List.set_cons_succ, Nat.zero_add, Nat.add_zero, Nat.reduceAdd, Nat.reduceSub, Nat.reduceMul, Nat.reduceLeDiff, Nat.not_lt_zero, List.map_cons, List.map_nil, List.cons_append, List.nil_append, loadA, cellsAt, nAg, packA, opt_bind_some, opt_map_some, opt_bind_none, opt_map_none, List.drop, List.take, List.head?, List.length_cons, List.length_nil, binA, unA, eqCells, eqCell, negB, fillA, sr_nil, sr_cons, sr_succ, sr_all, sr_len, storeA, Ob.with, indexedI, V.oneCell, intOf?, retQ_ret, retQ_norm, resA, resA1, fr_getD, packR, sealDepth, shut_bool, shut_int, Option.some.injEq, V.bool.injEq, V.int.injEq, Bool.not_true, Bool.not_false, true_and, and_true, and_self, Bool.and_true, Bool.and_false, Bool.true_and, Bool.false_and, Bool.or_true, Bool.or_false, Bool.true_or, Bool.false_or, Bool.false_eq_true, Int.reduceLT, Int.reduceLE, Int.reduceToNat, Int.reduceNeg, shut_plain, freeL_cons, freeL_nil, free_int, free_bool, free_agg, free_str, free_nils, free_tup, free_sl, true_implies, false_implies, Nat.sub_zero, Int.natCast_nonneg, Int.toNat_natCast, Nat.le_refl, not_true_eq_false, Int.reduceAdd, Int.reduceSub, Int.reduceMul, wrap64, false_and, and_false, cond_true, cond_false, Bool.cond_true_left, Bool.cond_false_right, Int.reduceBNe, Int.reduceBEq, decide_true, decide_false, Int.cast_ofNat_Int, Nat.mul_one, eq_self, Bool.true_eq_false, Bool.not_eq_true, Bool.not_eq_false, deads, List.replicate, argsF, app_get0, app_get, app_set0, app_set, mkA, hrA, lenA, jumpE, b2, am12]
  exact ⟨_, rfl⟩
end Go.Am.T


set_option linter.unusedVariables false
set_option linter.unusedSimpArgs false
set_option maxRecDepth 10000
namespace Go.Am.T
attribute [local congr] selV_congr impB_congr
theorem wp_cutT {E : Env} {a b : ACode} {t : List V} {h : Heap} {Q : Post} (T : List V) (H : Heap) (h1 : sx E a t h fun e t' h' => e = .norm ∧ t' = T ∧ h' = H) (h2 : wp E b T H Q) : wp E (.seq a b) t h Q := by
  rw [wp_seq]
  refine wp_mono (sx_wp h1) ?_
  rintro e t' h' ⟨rfl, rfl, rfl⟩
  exact h2
theorem wp_cutX {E : Env} {a b : ACode} {t : List V} {h : Heap} {Q : Post} {α β : Type} (T : List V) (H : α → β → Heap) (h1 : sx E a t h fun e t' h' => e = .norm ∧ t' = T ∧ ∃ x y, h' = H x y) (h2 : ∀ x y, wp E b T (H x y) Q) : wp E (.seq a b) t h Q := by
  rw [wp_seq]
  refine wp_mono (sx_wp h1) ?_
  rintro e t' h' ⟨rfl, rfl, x, y, rfl⟩
  exact h2 x y
theorem body12 : am12.body = .seq sA (.seq sB (.seq sC (.seq sD sZ))) := rfl
attribute [local irreducible] sB sC sD sZ
set_option maxHeartbeats 1000000 in
theorem stands_spec {N n : Nat} (hN : 5000 ≤ N) (hn : 7 ≤ n) {H : Heap} {d so r s e : Nat} {D : Dv} (h : DAt H d so D) (hr : RAt H r s e D) (leave : Int) :
    ∃ L, callA am N n 12 [.ptr d 1 0, .ptr r 1 0, .int .i64 leave] H = some (.bool true, H ++ L) := by
  obtain ⟨n, rfl⟩ : ∃ m, n = m + 1 := ⟨n - 1, by omega⟩
  obtain ⟨T, c1⟩ := @stands1 N n hN (by omega) H d so r s e D h hr leave
  have c2 := @stands2 N n hN (by omega) H T d so r s e D h hr leave
  have c3 := @stands3 N n hN (by omega) H T d so r s e D h hr leave
  have c4 := @stands4 N n hN (by omega) H T d so r s e D h hr leave
  suffices Hs : ∃ v h', callA am N (n + 1) 12 [.ptr d 1 0, .ptr r 1 0, .int .i64 leave] H = some (v, h') ∧ (v = .bool true ∧ ∃ L, h' = H ++ L) by
    obtain ⟨v, h', hc, rfl, L, rfl⟩ := Hs
    exact ⟨L, hc⟩
  refine call_keep at12 rfl rfl (by decide) ?_
  rw [body12]
  refine wp_cutT (tS H.length d []) (hS H [] r leave zz zz zz zz zz zz zz) ?_ ?_
  · clear c1 c2 c3 c4
    unfold tS hS zz
    simp +contextual -implicitDefEqProofs (maxSteps := 10000000) only [sx_seq, sxL_succ, lpQ_norm, lpQ_exit, lpQ_ret, loopQ_norm, loopQ_exit, loopQ_ret, sqQ_norm, sqQ_ret, sqQ_exit, sx_block, blkQ_norm, blkQ_exit, blkQ_ret, sx_cond, cdP_true, cdP_false, cdP_bool, sx_region, sx_draw, plainD, List.all_cons, List.all_nil, List.isEmpty_nil, List.isEmpty_cons, sxo_nil, sxo_cons, sxo_guard, gdS_bool, gdS_eff, gdS_tup, gdS_sel, gdS_seleff, sxK_def, wcall_some, effP_ret, effP_set, effP_none, effP_ite, wop_call, wop_cv, cvP_func, sx_ret, sx_exit, sx_skip, sx_clr, sx_fresh, stays, ↓selV_wt, ↓selV_wf, ↓impB_wt, ↓impB_wf, ↓selV_nor, ↓impB_nor, ↓selV_nt, ↓selV_nf, ↓impB_nt, ↓impB_nf, wantB_true, wantB_false, ↓selV_true, ↓selV_false, ↓selV_and, ↓impB_true, ↓impB_false, ↓impB_and, impB_triv, valOf_some, retH_some, ↓prim_pick, pickO_true, pickO_false, pickO_and, pickO_or, pickO_andr, pickO_orr, pickO_orrn, pickO_orn, pickO_bb, pickAnd_bool, pickOr_bool, ↓selV_nn, ↓impB_nn, Bool.and_assoc, Bool.or_assoc, doOp, ev_fr, ev_cst, put_none, put_fr, get, ins, del, dels, Nat.reduceLT, Nat.reduceEqDiff, ↓reduceIte, reduceCtorEq, ne_eq, not_false_eq_true, implies_true, framed_pureF, framed_fb, framed_N, framed_pure, wop_prim, prim, YLD, mkA, V.cells, List.getElem?_cons_zero, List.getElem?_cons_succ, List.set_cons_zero, List.set_cons_succ, Nat.zero_add, Nat.add_zero, Nat.reduceAdd, Nat.reduceSub, Nat.reduceMul, Nat.reduceLeDiff, Nat.not_lt_zero, List.map_cons, List.map_nil, List.cons_append, List.nil_append, loadA, cellsAt, nAg, packA, opt_bind_some, opt_map_some, opt_bind_none, opt_map_none, List.drop, List.take, List.head?, List.length_cons, List.length_nil, binA, unA, eqCells, eqCell, negB, fillA, sr_nil, sr_cons, sr_succ, sr_all, sr_len, storeA, Ob.with, indexedI, V.oneCell, intOf?, retQ_ret, retQ_norm, resA, resA1, fr_getD, packR, sealDepth, shut_bool, shut_int, Option.some.injEq, V.bool.injEq, V.int.injEq, Bool.not_true, Bool.not_false, true_and, and_true, and_self, Bool.and_true, Bool.and_false, Bool.true_and, Bool.false_and, Bool.or_true, Bool.or_false, Bool.true_or, Bool.false_or, Bool.false_eq_true, Int.reduceLT, Int.reduceLE, Int.reduceToNat, Int.reduceNeg, shut_plain, freeL_cons, freeL_nil, free_int, free_bool, free_agg, free_str, free_nils, free_tup, free_sl, true_implies, false_implies, Nat.sub_zero, Int.natCast_nonneg, Int.toNat_natCast, Nat.le_refl, not_true_eq_false, Int.reduceAdd, Int.reduceSub, Int.reduceMul, wrap64, false_and, and_false, cond_true, cond_false, Bool.cond_true_left, Bool.cond_false_right, Int.reduceBNe, Int.reduceBEq, decide_true, decide_false, Int.cast_ofNat_Int, Nat.mul_one, eq_self, Bool.true_eq_false, Bool.not_eq_true, Bool.not_eq_false, deads, List.replicate, argsF, sA, am12, app_get0, app_get, app_set0, app_set, mkA]
  · have c5 : wp ⟨pureOf am, callA am N n, N, H.length⟩ (.seq sD sZ) (tS H.length d []) (hS H T r leave zz zz zz zz zz zz zz) (retQ am12.res fun x h' => x = .bool true ∧ ∃ L, h' = H ++ L) :=
      wp_cutX _ (fun x3 x4 => hS H T r leave x3 x4 zz zz zz zz zz) c3 fun x3 x4 => sx_wp (c4 x3 x4)
    have c6 : wp ⟨pureOf am, callA am N n, N, H.length⟩ (.seq sC (.seq sD sZ)) (tS H.length d []) (hS H T r leave zz zz zz zz zz zz zz) (retQ am12.res fun x h' => x = .bool true ∧ ∃ L, h' = H ++ L) :=
      wp_cutT _ _ c2 c5
    have c7 : wp ⟨pureOf am, callA am N n, N, H.length⟩ (.seq sB (.seq sC (.seq sD sZ))) (tS H.length d []) (hS H [] r leave zz zz zz zz zz zz zz) (retQ am12.res fun x h' => x = .bool true ∧ ∃ L, h' = H ++ L) :=
      wp_cutT _ _ c1 c6
    exact c7
end Go.Am.T


set_option linter.unusedVariables false
set_option linter.unusedSimpArgs false
namespace Go.Am
variable {P : Program}
inductive Sh where
  | int (k : IntKind)
  | bool
  | str
  | unit
  | pair (a b : Sh)
  | arr (n : Nat) (e : Sh)
  | sl (ag : Bool) (s : Nat) (e : Sh)
  deriving DecidableEq
def elemV (ag : Bool) (u : List V) : V := match ag with | true => .agg u | false => u.headD .junk
def InSh : Sh → List V → Prop
  | .int k, vs => ∃ n, vs = [.int k n] ∧ (Lit.int k n).wf = true
  | .bool, vs => ∃ b, vs = [.bool b]
  | .str, vs => ∃ s, vs = [.str s] ∧ s.length ≤ maxLen
  | .unit, vs => vs = []
  | .pair a b, vs => ∃ u v, vs = u ++ v ∧ InSh a u ∧ InSh b v
  | .arr n e, vs => ∃ us : List (List V), us.length = n ∧ vs = us.flatten ∧ ∀ u ∈ us, InSh e u
  | .sl ag s e, vs => vs = [.nils] ∨ ∃ (us : List (List V)) (c : Nat), vs = [.sl (us.map (elemV ag)) s (some c)] ∧ us.length ≤ c ∧ c ≤ maxLen ∧ ∀ u ∈ us, u.length = s ∧ InSh e u
def aggB (P : Program) (t : TypeId) : Bool := match P.underlying t with | some (.struct _) | some (.array _ _) => true | _ => false
def contig (P : Program) (tot : Nat) : Nat → List Field → Bool
  | off, [] => off == tot
  | off, f :: fs => f.offset == off && contig P tot (off + P.cellsOf f.type) fs
def shFields (g : TypeId → Option Sh) : List Field → Option Sh
  | [] => some .unit
  | f :: fs => match g f.type, shFields g fs with | some a, some b => some (.pair a b) | _, _ => none
def shF (P : Program) : Nat → TypeId → Option Sh
  | 0, _ => none
  | m + 1, t =>
    match P.underlying t with
    | some .bool => some .bool
    | some (.int k) => some (.int k)
    | some .string => some .str
    | some (.struct fs) => if contig P (P.cellsOf t) 0 fs.toList then shFields (shF P m) fs.toList else none
    | some (.array n e) => if n * P.cellsOf e = P.cellsOf t then (shF P m e).map (.arr n) else none
    | some (.slice e) => if 0 < P.cellsOf e ∧ (aggB P e = true ∨ P.cellsOf e = 1) then (shF P m e).map (.sl (aggB P e) (P.cellsOf e)) else none
    | _ => none
def argG (P : Program) (w : World) : G := ⟨fun _ _ => none, fun b => b < w.heap.size, codesOf P⟩
section
variable {H : Type} {enc : TypeId × Value → H} {w : World} {sp : Nat → Bool} {held : Bool} {g : G}
theorem cells_one {v : V} {x : Value} (h : VRel g w v x) : Cells g w [v] [x] := by
  refine ⟨rfl, fun i c y h1 h2 => ?_⟩
  cases i with
  | zero => simp at h1 h2; subst h1; subst h2; exact h
  | succ i => simp at h1
theorem cells_app {u v : List V} {xs ys : List Value} (h1 : Cells g w u xs) (h2 : Cells g w v ys) : Cells g w (u ++ v) (xs ++ ys) := cells_append h1 h2
theorem fields_in {m : Nat} {cs : List Value} {R : TypeId → List Value → Prop} (ih : ∀ (t : TypeId) (S : Sh) (cs : List Value), shF P m t = some S → R t cs → ∃ vs, Cells g w vs cs ∧ InSh S vs) :
    ∀ (fs : List Field) (off : Nat) (S : Sh), contig P cs.length off fs = true → shFields (shF P m) fs = some S →
      (∀ f ∈ fs, R f.type ((cs.drop f.offset).take (P.cellsOf f.type))) → ∃ vs, Cells g w vs (cs.drop off) ∧ InSh S vs
  | [], off, S, hc, hS, hx => by
    simp only [contig, beq_iff_eq] at hc
    simp only [shFields, Option.some.injEq] at hS
    subst hS
    exact ⟨[], by subst hc; simp [Cells], rfl⟩
  | f :: fs, off, S, hc, hS, hx => by
    simp only [contig, Bool.and_eq_true, beq_iff_eq] at hc
    obtain ⟨rfl, hc⟩ := hc
    simp only [shFields] at hS
    split at hS
    case h_2 => cases hS
    rename_i a b ha hb
    cases hS
    obtain ⟨u, hu, hua⟩ := ih f.type a _ ha (hx f (by simp))
    obtain ⟨v, hv, hvb⟩ := fields_in ih fs (f.offset + P.cellsOf f.type) b hc hb (fun f hf => hx f (by simp [hf]))
    refine ⟨u ++ v, ?_, u, v, rfl, hua, hvb⟩
    have := cells_app hu hv
    rwa [← List.drop_drop, List.take_append_drop] at this
theorem elems_in {S : Sh} {k : Nat} {cs : List Value} {R : List Value → Prop} (ih : ∀ (cs : List Value), R cs → ∃ vs, Cells g w vs cs ∧ InSh S vs) :
    ∀ (n : Nat), (∀ i, i < n → R ((cs.drop (i * k)).take k)) → ∃ us : List (List V), us.length = n ∧ Cells g w us.flatten (cs.take (n * k)) ∧ (∀ u ∈ us, InSh S u)
  | 0, hx => ⟨[], rfl, by simp [Cells], by simp⟩
  | n + 1, hx => by
    obtain ⟨us, e1, e2, e3⟩ := elems_in ih n (fun i hi => hx i (by omega))
    obtain ⟨u, hu, hus⟩ := ih _ (hx n (by omega))
    refine ⟨us ++ [u], by simp [e1], ?_, ?_⟩
    · have := cells_app e2 hu
      rw [List.flatten_append]
      simp only [List.flatten_cons, List.flatten_nil, List.append_nil]
      rw [Nat.add_mul, Nat.one_mul, List.take_add]
      exact this
    · intro v hv
      simp only [List.mem_append, List.mem_singleton] at hv
      rcases hv with hv | rfl
      · exact e3 v hv
      · exact hus
theorem spot_of {P : Program} {w : World} {a : Addr} {n : Nat} {cs : List Value} (hn : 0 < n) (h : w.cells? 0 a n = some cs) : a.spot = none ∧ a.block < w.heap.size := by
  simp only [World.cells?, Nat.zero_le, ↓reduceIte] at h
  have h0 := mapM_some_get h 0 0 (by simp [hn])
  have hl : cs.length = n := by simpa using mapM_some_length h
  rw [List.getElem?_eq_getElem (by omega)] at h0
  have ha : a.add 0 = a := by unfold Addr.add; rw [if_pos rfl]
  rw [ha] at h0
  unfold World.cell? at h0
  split at h0
  · rename_i hb
    refine ⟨?_, ?_⟩
    · split at h0
      · cases h0
      · rename_i hs
        simpa using hs
    · rcases Nat.lt_or_ge a.block w.heap.size with h | h
      · exact h
      · rw [Array.getElem?_eq_none h] at hb; cases hb
  · cases h0
theorem sl_in {m : Nat} {t e : TypeId} {S' : Sh} (hsp : ∀ b, sp b = true) (ih : ∀ (n : Nat) (cs : List Value) (x : DataW H × List MemPlace), DataW.trod enc P w 0 sp held n e cs = some x → ∃ vs, Cells (argG P w) w vs cs ∧ InSh S' vs)
    (hu : P.underlying t = some (.slice e)) (hpos : 0 < P.cellsOf e) (hone : aggB P e = true ∨ P.cellsOf e = 1) (hS' : shF P m e = some S') {fuel : Nat} {cs : List Value} {x : DataW H × List MemPlace} (hd : DataW.trod enc P w 0 sp held fuel t cs = some x) :
    ∃ vs, Cells (argG P w) w vs cs ∧ InSh (.sl (aggB P e) (P.cellsOf e) S') vs := by
  rcases DataW.trod_slice hu hd with ⟨h1, -⟩ | ⟨a, len, cap, elems, rest, n, rfl, h1, -, -, hlc, hcm, hel, hx, hrest, -⟩
  · cases h1
    exact ⟨[.nils], cells_one .nils, .inl rfl⟩
  · cases h1
    rcases Nat.eq_zero_or_pos cap with h0 | hcap
    · subst h0
      have hl0 : len = 0 := by omega
      subst hl0
      exact ⟨[.sl [] (P.cellsOf e) (some 0)], cells_one (.sl0 _ _ a (fun k hk => by cases hk; rfl)), .inr ⟨[], 0, rfl, Nat.le_refl _, Nat.zero_le _, fun u hu => by cases hu⟩⟩
    have hhas : a.spot = none ∧ a.block < w.heap.size := by
      rcases Nat.eq_zero_or_pos len with h0 | hlen
      · subst h0
        obtain ⟨hr1, hr2⟩ := hrest (hsp _)
        have h1 := hr2 0 (by omega)
        rw [List.getElem?_eq_getElem (by omega)] at h1
        simp only [Option.bind_eq_some_iff] at h1
        obtain ⟨cs, h2, -⟩ := h1
        rw [show (0 + 0) * P.cellsOf e = 0 by simp, show a.add 0 = a by unfold Addr.add; rw [if_pos rfl]] at h2
        exact spot_of (P := P) hpos h2
      · have h1 := hx 0 hlen
        rw [List.getElem?_eq_getElem (by omega)] at h1
        simp only [Option.bind_eq_some_iff] at h1
        obtain ⟨cs, h2, -⟩ := h1
        rw [show 0 * P.cellsOf e = 0 by simp, show a.add 0 = a by unfold Addr.add; rw [if_pos rfl]] at h2
        exact spot_of (P := P) hpos h2
    obtain ⟨hspot, hlt⟩ := hhas
    obtain ⟨ab, ao, asp⟩ := a
    simp only at hspot hlt
    subst hspot
    -- every element's cells
    have hel : ∀ i, i < len → ∃ cs us, (at_ ab ao).add (i * P.cellsOf e) = at_ ab (ao + i * P.cellsOf e) ∧ w.cells? 0 (at_ ab (ao + i * P.cellsOf e)) (P.cellsOf e) = some cs ∧ Cells (argG P w) w us cs ∧ InSh S' us := by
      intro i hi
      have h1 := hx i hi
      rw [List.getElem?_eq_getElem (by omega)] at h1
      simp only [Option.bind_eq_some_iff] at h1
      obtain ⟨cs, h2, h3⟩ := h1
      obtain ⟨us, h4, h5⟩ := ih n cs _ h3
      rw [show (⟨ab, ao, none⟩ : Addr) = at_ ab ao from rfl, add_at] at h2
      exact ⟨cs, us, add_at _ _ _, h2, h4, h5⟩
    have hcell? : ∀ i cs, w.cells? 0 (at_ ab (ao + i * P.cellsOf e)) (P.cellsOf e) = some cs → cs.length = P.cellsOf e ∧ ∀ j, j < P.cellsOf e → w.cell? (at_ ab (ao + (i * P.cellsOf e + j))) = cs[j]? := by
      intro i cs h
      simp only [World.cells?, Nat.zero_le, ↓reduceIte] at h
      have hl : cs.length = P.cellsOf e := by simpa using mapM_some_length h
      refine ⟨hl, fun j hj => ?_⟩
      have := mapM_some_get h j j (by simp [hj])
      rw [add_at, Nat.add_assoc] at this
      exact this
    have hel' : ∀ i, ∃ p : List Value × List V, i < len → w.cells? 0 (at_ ab (ao + i * P.cellsOf e)) (P.cellsOf e) = some p.1 ∧ Cells (argG P w) w p.2 p.1 ∧ InSh S' p.2 := fun i => by
      by_cases hi : i < len
      · obtain ⟨cs, us, -, h2, h3, h4⟩ := hel i hi
        exact ⟨(cs, us), fun _ => ⟨h2, h3, h4⟩⟩
      · exact ⟨([], []), fun h => absurd h hi⟩
    obtain ⟨f, hf⟩ := Classical.axiomOfChoice hel'
    obtain ⟨cs, hcs'⟩ : ∃ cs : Nat → List Value, cs = fun i => (f i).1 := ⟨_, rfl⟩
    obtain ⟨us, hus'⟩ : ∃ us : Nat → List V, us = fun i => (f i).2 := ⟨_, rfl⟩
    have h2 : ∀ i, i < len → w.cells? 0 (at_ ab (ao + i * P.cellsOf e)) (P.cellsOf e) = some (cs i) := fun i hi => by rw [hcs']; exact (hf i hi).1
    have h3 : ∀ i, i < len → Cells (argG P w) w (us i) (cs i) := fun i hi => by rw [hcs', hus']; exact (hf i hi).2.1
    have h4 : ∀ i, i < len → InSh S' (us i) := fun i hi => by rw [hus']; exact (hf i hi).2.2
    refine ⟨[.sl ((List.range len).map fun i => elemV (aggB P e) (us i)) (P.cellsOf e) (some cap)], ?_, .inr ⟨(List.range len).map us, cap, ?_, by simpa using hlc, hcm, ?_⟩⟩
    · have hus : ∀ i, i < len → (us i).length = P.cellsOf e := fun i hi => by
        have := (h3 i hi).1
        have := (hcell? i _ (h2 i hi)).1
        omega
      have hcells : ∀ i, i < len → (elemV (aggB P e) (us i)).cells = us i := by
        intro i hi
        cases hag : aggB P e with
        | true => rfl
        | false =>
          have hk : P.cellsOf e = 1 := by rcases hone with h | h; rw [hag] at h; cases h; exact h
          have hl := hus i hi
          rw [hk] at hl
          obtain ⟨x, hx⟩ : ∃ x, us i = [x] := by
            cases hu : us i with
            | nil => rw [hu] at hl; cases hl
            | cons x l => cases l with | nil => exact ⟨x, rfl⟩ | cons y l => rw [hu] at hl; simp at hl
          rw [hx]
          have h5 := h4 i hi
          rw [hx] at h5
          have hone' : x.cells = [x] := by
            have : ∀ (S : Sh) (m : Nat) (t : TypeId), aggB P t = false → shF P m t = some S → InSh S [x] → x.cells = [x] := by
              intro S m t ht hS h
              cases m with
              | zero => simp [shF] at hS
              | succ m =>
                simp only [shF] at hS
                unfold aggB at ht
                split at hS <;> rename_i hu <;> simp only [hu] at ht
                · cases hS; obtain ⟨b, h⟩ := h; cases h; rfl
                · cases hS; obtain ⟨b, h, -⟩ := h; cases h; rfl
                · cases hS; obtain ⟨b, h, -⟩ := h; cases h; rfl
                · cases ht
                · cases ht
                · split at hS
                  case isFalse => cases hS
                  simp only [Option.map_eq_some_iff] at hS
                  obtain ⟨S', -, rfl⟩ := hS
                  rcases h with h | ⟨us, c, h, -⟩ <;> cases h <;> rfl
                · cases hS
            exact this S' m e hag hS' h5
          exact hone'
      have hlen : ((List.range len).map fun i => elemV (aggB P e) (us i)).length = len := by simp
      have key := VRel.sl (g := argG P w) (w := w) ((List.range len).map fun i => elemV (aggB P e) (us i)) (P.cellsOf e) (some cap) ab ao cap
        (fun j => (w.cell? (at_ ab (ao + j))).getD undef) (fun _ => hlt) (by rw [hlen]; exact hlc) (fun k hk => by cases hk; rfl) ?_ ?_ ?_
      · rw [hlen] at key; exact cells_one key
      · intro i x hx
        simp only [List.getElem?_map, Option.map_eq_some_iff] at hx
        obtain ⟨j, hj, rfl⟩ := hx
        have hj' : j < len := by
          have := List.mem_of_getElem? hj
          simpa using this
        rw [hcells j hj', hus j hj']
      · intro j hj
        rw [hlen] at hj
        have hq : j / P.cellsOf e < len := Nat.div_lt_of_lt_mul (by rw [Nat.mul_comm]; exact hj)
        obtain ⟨hl, hc⟩ := hcell? _ _ (h2 _ hq)
        have := hc (j % P.cellsOf e) (Nat.mod_lt _ hpos)
        rw [Nat.mul_comm, Nat.div_add_mod] at this
        rw [this, List.getElem?_eq_getElem (by rw [hl]; exact Nat.mod_lt _ hpos)]
        rfl
      · intro i x j y hx hy
        simp only [List.getElem?_map, Option.map_eq_some_iff] at hx
        obtain ⟨k, hk, rfl⟩ := hx
        have hk' : k < len := by
          have := List.mem_of_getElem? hk
          simpa using this
        have hki : k = i := by
          obtain ⟨h, e⟩ := List.getElem?_eq_some_iff.1 hk
          simpa using e.symm
        subst hki
        rw [hcells k hk'] at hy
        obtain ⟨hl, hc⟩ := hcell? _ _ (h2 _ hk')
        have hj' : j < P.cellsOf e := by
          rw [← hus k hk']
          exact (List.getElem?_eq_some_iff.1 hy).1
        rw [hc j hj', List.getElem?_eq_getElem (by rw [hl]; exact hj')]
        exact (h3 k hk').2 j y _ hy (List.getElem?_eq_getElem _)
    · rw [List.map_map]
      rfl
    · intro u hu'
      obtain ⟨i, hi, rfl⟩ := List.mem_map.1 hu'
      have hi' : i < len := by simpa using hi
      refine ⟨?_, h4 i hi'⟩
      have := (h3 i hi').1
      have := (hcell? i _ (h2 i hi')).1
      omega
theorem flat_in (hsp : ∀ b, sp b = true) : ∀ (m : Nat) (t : TypeId) (S : Sh) (fuel : Nat) (cs : List Value) (x : DataW H × List MemPlace), shF P m t = some S → DataW.trod enc P w 0 sp held fuel t cs = some x → ∃ vs, Cells (argG P w) w vs cs ∧ InSh S vs
  | 0, t, S, fuel, cs, x, hS, h => by simp [shF] at hS
  | m + 1, t, S, fuel, cs, x, hS, h => by
    simp only [shF] at hS
    split at hS <;> rename_i hu
    · cases hS
      obtain ⟨b, rfl, -⟩ := DataW.trod_bool hu h
      exact ⟨[.bool b], cells_one (.bool b), b, rfl⟩
    · rename_i k
      cases hS
      obtain ⟨n, rfl, -, hw⟩ := DataW.trod_int hu h
      exact ⟨[.int k n], cells_one (.int k n), n, rfl, hw⟩
    · cases hS
      obtain ⟨s, rfl, -, hs⟩ := DataW.trod_string hu h
      exact ⟨[.str s.data.toList], cells_one (.str s.data.toList), _, rfl, by simpa using hs⟩
    · rename_i fs
      split at hS
      case isFalse => cases hS
      rename_i hc
      obtain ⟨xs, n, rfl, -, hl, hxl, hx⟩ := DataW.trod_struct hu h
      rw [← hl] at hc
      have := fields_in (g := argG P w) (R := fun t cs => ∃ x, DataW.trod enc P w 0 sp held n t cs = some x) (fun t S cs hS ⟨x, hx⟩ => flat_in hsp m t S n cs x hS hx) fs.toList 0 S hc hS (fun f hf => by
        obtain ⟨i, hi, rfl⟩ := List.getElem_of_mem hf
        have hi' : i < fs.size := by simpa using hi
        refine ⟨xs[i], ?_⟩
        rw [hx i _ (by simp [hi']), List.getElem?_eq_getElem])
      simpa using this
    · rename_i n e
      split at hS
      case isFalse => cases hS
      rename_i hc
      simp only [Option.map_eq_some_iff] at hS
      obtain ⟨S', hS', rfl⟩ := hS
      obtain ⟨xs, k, rfl, -, hl, hxl, hx⟩ := DataW.trod_array hu h
      obtain ⟨us, h1, h2, h3⟩ := elems_in (g := argG P w) (w := w) (k := P.cellsOf e) (cs := cs) (R := fun cs => ∃ x, DataW.trod enc P w 0 sp held k e cs = some x) (fun cs ⟨x, hx⟩ => flat_in hsp m e S' k cs x hS' hx) n (fun i hi => ⟨xs[i], by rw [hx i hi, List.getElem?_eq_getElem]⟩)
      rw [hc, ← hl, List.take_length] at h2
      exact ⟨us.flatten, h2, us, h1, rfl, h3⟩
    · rename_i e
      split at hS
      case isFalse => cases hS
      rename_i hc
      simp only [Option.map_eq_some_iff] at hS
      obtain ⟨S', hS', rfl⟩ := hS
      exact sl_in (m := m) hsp (fun n cs x h => flat_in hsp m e S' n cs x hS' h) hu hc.1 hc.2 hS' h
    · cases hS
def shP (P : Program) (m : Nat) (t : TypeId) : Option Sh := shF P m t
def InP (ag : Bool) (S : Sh) (v : V) : Prop := match ag with | true => ∃ cs, v = .agg cs ∧ InSh S cs | false => InSh S [v]
theorem cells_of_agg {xs : Array Value} : (Value.agg xs).cells = xs := rfl
theorem okWide_agg {r : Reach} {b0 : Nat} {t : TypeId} {v : Value} (ha : aggB P t = true) (hv : Value.okWide P w r b0 t v) : ∃ cs, v = .agg cs := by
  unfold aggB at ha
  unfold Value.okWide at hv
  split at ha <;> rename_i hu <;> simp only [hu] at hv
  · exact ⟨hv.choose, hv.choose_spec.1⟩
  · exact ⟨hv.choose, hv.choose_spec.1⟩
  · cases ha
theorem okWide_cell {r : Reach} {b0 : Nat} {t : TypeId} {v : Value} (ha : aggB P t = false) (hv : Value.okWide P w r b0 t v) : Cell.okWide P w r b0 t v := by
  unfold aggB at ha
  unfold Value.okWide at hv
  split at ha
  · cases ha
  · cases ha
  · rename_i hu1 hu2
    split at hv
    · rename_i h2; exact absurd h2 (hu1 _)
    · rename_i h2; exact absurd h2 (hu2 _ _)
    · exact hv
theorem cell_not_agg {r : Reach} {b0 : Nat} {t : TypeId} {xs : Array Value} (hv : Cell.okWide P w r b0 t (.agg xs)) : False := by
  unfold Cell.okWide at hv
  split at hv <;> first | (rename_i h1 h2; cases h2; done) | skip
  unfold Cell.ok at hv
  split at hv <;> simp_all
theorem param_in {m : Nat} {t : TypeId} {S : Sh} {v : Value} {r : Reach} {b0 : Nat} {d : DataW H} {ps : List MemPlace} (hsp : ∀ b, sp b = true) (hS : shP P m t = some S) (hok : Value.okWide P w r b0 t v)
    (hd : DataW.Trod enc P w 0 sp held t v d ps) : ∃ u, VRel (argG P w) w u v ∧ InP (aggB P t) S u := by
  obtain ⟨fuel, hd⟩ := hd
  unfold shP at hS
  cases hag : aggB P t with
  | true =>
    obtain ⟨xs, rfl⟩ := okWide_agg hag hok
    obtain ⟨vs, h1, h2⟩ := flat_in hsp m t S fuel _ _ hS hd
    exact ⟨.agg vs, by have := Cells.agg h1; rwa [cells_of_agg, Array.toArray_toList] at this, vs, rfl, h2⟩
  | false =>
    have hcell := okWide_cell hag hok
    have hcs : v.cells.toList = [v] := by
      cases v <;> first | rfl | exact (cell_not_agg hcell).elim
    rw [hcs] at hd
    obtain ⟨vs, h1, h2⟩ := flat_in hsp m t S fuel _ _ hS hd
    obtain ⟨x, rfl⟩ : ∃ x, vs = [x] := by
      have := h1.1
      cases vs with
      | nil => cases this
      | cons x l => cases l with | nil => exact ⟨x, rfl⟩ | cons y l => simp at this
    exact ⟨x, h1.2 0 x v rfl rfl, h2⟩
theorem InSh.free : ∀ {S : Sh} {vs : List V}, InSh S vs → V.freeL vs = true
  | .int k, vs, ⟨n, h, _⟩ => by subst h; rfl
  | .bool, vs, ⟨n, h⟩ => by subst h; rfl
  | .str, vs, ⟨n, h, _⟩ => by subst h; rfl
  | .unit, vs, h => by cases h; rfl
  | .pair a b, vs, ⟨u, v, h, h1, h2⟩ => by subst h; rw [freeL_append, InSh.free h1, InSh.free h2]; rfl
  | .arr n e, vs, ⟨us, hn, h, h1⟩ => by
    subst h
    clear hn
    induction us with
    | nil => rfl
    | cons u us ih => rw [List.flatten_cons, freeL_append, InSh.free (h1 u (by simp)), ih (fun v hv => h1 v (by simp [hv]))]; rfl
  | .sl ag s e, vs, h => by
    rcases h with rfl | ⟨us, c, rfl, -, -, h1⟩
    · rfl
    · rw [freeL_cons, freeL_nil, Bool.and_true, free_sl]
      clear c
      induction us with
      | nil => rfl
      | cons u us ih =>
        have hu := InSh.free (h1 u (by simp)).2
        rw [List.map_cons, freeL_cons, ih (fun v hv => h1 v (by simp [hv])), Bool.and_true]
        cases ag with
        | true => exact hu
        | false =>
          cases u with
          | nil => rfl
          | cons x u => rw [freeL_cons, Bool.and_eq_true] at hu; exact hu.1
theorem InP.free {ag : Bool} {S : Sh} {v : V} (h : InP ag S v) : v.free = true := by
  cases ag with
  | true => obtain ⟨cs, rfl, h⟩ := h; exact h.free
  | false => have := InSh.free h; rw [freeL_cons, Bool.and_eq_true] at this; exact this.1
end
end Go.Am


set_option linter.unusedVariables false
set_option linter.unusedSimpArgs false
namespace Go.Am
def Bytes (l : List Int) : Prop := ∀ x ∈ l, 0 ≤ x ∧ x ≤ 255
end Go.Am


set_option linter.unusedVariables false
set_option linter.unusedSimpArgs false
set_option maxRecDepth 10000
namespace Go.Am.T
attribute [local congr] selV_congr impB_congr
theorem known_spec {N n : Nat} (hN : 5000 ≤ N) (hn : 20 ≤ n) (h : Heap) : callA am N n 8 [] h = some (.bool true, h) :=
  closed_quick pm8 (show callB am 5000 20 8 [] [] = some (.bool true, []) by kernel_rfl) hN hn h
def Ro (k : IntKind) (m : List Int) (b : V) : Prop := (m = [] ∧ b = .nils) ∨ ∃ c, b = .sl (m.map (V.int k)) 1 c
theorem Ro.isL {k : IntKind} {m : List Int} {b : V} (h : Ro k m b) : IsL b 1 (m.map fun n => [V.int k n]) := by
  rcases h with ⟨rfl, rfl⟩ | ⟨c, rfl⟩
  · exact isL_nils 1
  · exact isL_sl (ints_free k m) (by rw [List.map_map]; rfl)
theorem ones_flat (k : IntKind) : ∀ m : List Int, (m.map fun n => [V.int k n]).flatten = m.map (V.int k)
  | [] => rfl
  | x :: m => by rw [List.map_cons, List.flatten_cons, ones_flat k m]; rfl
theorem Ro.first {k : IntKind} {m : List Int} {b : V} (h : Ro k m b) (get : Nat → Option Ob) : lenA b = some m.length ∧ firstA get 1 m.length b = some (m.map (V.int k)) := by
  have hl := h.isL
  refine ⟨by rw [hl.len, List.length_map], ?_⟩
  rw [hl.first get m.length (by simp), List.take_of_length_le (by simp), ones_flat]
theorem ro_in {k : IntKind} {u : List V} (h : InSh (.sl false 1 (.int k)) u) : ∃ b m, u = [b] ∧ Ro k m b := by
  rcases h with rfl | ⟨us, c, rfl, -, -, hu⟩
  · exact ⟨.nils, [], rfl, .inl ⟨rfl, rfl⟩⟩
  · have : ∀ us : List (List V), (∀ u ∈ us, u.length = 1 ∧ InSh (.int k) u) → ∃ m : List Int, us.map (elemV false) = m.map (V.int k) := by
      intro us
      induction us with
      | nil => exact fun _ => ⟨[], rfl⟩
      | cons u us ih =>
        intro hu
        obtain ⟨m, hm⟩ := ih (fun v hv => hu v (by simp [hv]))
        obtain ⟨x, rfl, -⟩ := (hu u (by simp)).2
        exact ⟨x :: m, by rw [List.map_cons, hm]; rfl⟩
    obtain ⟨m, hm⟩ := this us hu
    rw [hm]
    exact ⟨_, m, rfl, .inr ⟨some c, rfl⟩⟩
theorem b2s_row {get : Nat → Option Ob} {l : List Int} {b : V} (h : Ro .u8 l b) (fb : Nat) (ρ : Opd → V) (x : Opd) (hx : ρ x = b) : prim fb ρ get (.b2s x) = some (.ret (.str (strB l))) := by
  have key : ∀ (l : List Int), ((l.map (V.int .u8)).mapM fun (c : V) => match c with | .int .u8 n => some (UInt8.ofNat n.toNat) | _ => none) = some (strB l) := by
    intro l
    induction l with
    | nil => rfl
    | cons a l ih => rw [List.map_cons, List.mapM_cons, ih]; rfl
  obtain ⟨h1, h2⟩ := h.first get
  rcases h with ⟨rfl, rfl⟩ | ⟨c, rfl⟩
  · unfold prim
    simp only [hx, lenA, Option.bind_some]
    rfl
  · unfold prim
    simp only [hx]
    rw [h1]
    simp only [Option.bind_some]
    rw [h2]
    simp only [Option.bind_some]
    exact (congrArg (Option.map fun l => Eff.ret (V.str l)) (key l)).trans rfl
theorem app_none {get : Nat → Option Ob} {o s b : Nat} {y : V} (hl : lenA y = some 0) (hf : firstA get s 0 y = some []) : appendA get o s b .nils y = some (.ret .nils) := by
  simp [appendA, hl, hf]
theorem app_new {K : Heap} {o s b n : Nat} {y : V} {new : List V} {x : Ob} (ho : K[o]? = some x) (hl : lenA y = some n) (hf : firstA (fun o => K[o]?) s n y = some new) (h1 : new.all V.oneCell = true) (h0 : n ≠ 0) (hb : n * b ≤ maxBytes) :
    appendA (fun o => K[o]?) o s b .nils y = some (.set o ⟨x.ver + 1, .arr new⟩ (.view o (x.ver + 1) 0 n s none)) := by
  simp only [appendA, hl, hf, h1, ↓reduceIte, h0, hb, mkA, ho]
theorem app_more {K : Heap} {o o' ver s b n len : Nat} {y : V} {new cs : List V} (ho : K[o']? = some ⟨ver, .arr cs⟩) (hl : lenA y = some n) (hf : firstA (fun o => K[o]?) s n y = some new) (h1 : new.all V.oneCell = true) (h0 : n ≠ 0) (hc : len * s = cs.length) (hb : (len + n) * b ≤ maxBytes) :
    appendA (fun o => K[o]?) o s b (.view o' ver 0 len s none) y = some (.set o' ⟨ver + 1, .arr (cs ++ new)⟩ (.view o' (ver + 1) 0 (len + n) s none)) := by
  simp only [appendA, hl, hf, h1, ↓reduceIte, h0, cellsAt, ho, Nat.zero_add, hc, Nat.le_refl, hb, List.drop_zero]
end Go.Am.T


set_option linter.unusedVariables false
set_option linter.unusedSimpArgs false
set_option maxRecDepth 10000
namespace Go.Am.T
attribute [local congr] selV_congr impB_congr
def oA : ACode := (.seq (.region [⟨some 4, (.move (.cst (.bool false))), none⟩]) (.clr [4]))
def oB : ACode := (.seq (.seq (.region [⟨some 12, (.move (.tmp 0)), none⟩, ⟨some 13, (.lenS (.tmp 12)), none⟩, ⟨some 14, (.bin .gtr (.tmp 13) (.cst (.int .i64 9000))), none⟩, ⟨some 15, (.move (.tmp 14)), none⟩, ⟨some 16, (.move (.tmp 1)), some (15, false)⟩, ⟨some 17, (.lenS (.tmp 16)), some (15, false)⟩, ⟨some 18, (.bin .gtr (.tmp 17) (.cst (.int .i64 20))), some (15, false)⟩, ⟨some 19, (.pick (.tmp 15) (.cst (.bool true)) (.tmp 18)), none⟩]) (.clr [18, 17, 16, 15, 14, 13, 12])) (.cond (.tmp 19) (.seq (.clr [19, 1, 0]) (.seq (.seq (.region [⟨some 20, (.call 8 []), none⟩, ⟨some 4, (.move (.tmp 20)), none⟩]) (.clr [20])) .ret)) (.seq (.clr [19]) .skip)))
def oP : ACode := (.seq (.region [⟨some 21, (.move (.tmp 0)), none⟩, ⟨some 22, (.append 0 1 1 (.cst .nils) (.tmp 21)), none⟩, ⟨some 23, (.bnew 1 [(.int .u8 0)] 1 1 [(0, 1, (.cst (.int .u8 119)))]), none⟩, ⟨some 24, (.append 2 1 1 (.tmp 22) (.tmp 23)), none⟩, ⟨some 25, (.move (.tmp 1)), none⟩, ⟨some 26, (.append 3 1 8 (.cst .nils) (.tmp 25)), none⟩, ⟨some 27, (.bslice [(.int .i64 0)] 1 1 [(0, 1, (.cst (.int .i64 77)))]), none⟩, ⟨some 28, (.append 4 1 8 (.tmp 26) (.tmp 27)), none⟩, ⟨some 5, (.move (.tmp 24)), none⟩, ⟨some 6, (.move (.tmp 28)), none⟩]) (.clr [28, 27, 26, 25, 24, 23, 22, 21]))
def oR : ACode := (.seq (.seq (.region [⟨some 30, (.move (.tmp 5)), none⟩, ⟨some 31, (.move (.tmp 0)), none⟩, ⟨some 32, (.lenS (.tmp 31)), none⟩, ⟨some 33, (.slS 1 (.tmp 30) none (some (.tmp 32)) none), none⟩, ⟨some 34, (.move (.tmp 6)), none⟩, ⟨some 35, (.move (.tmp 1)), none⟩, ⟨some 36, (.lenS (.tmp 35)), none⟩, ⟨some 37, (.slS 1 (.tmp 34) none (some (.tmp 36)) none), none⟩, ⟨some 38, (.call 9 [(.tmp 33), (.tmp 37)]), none⟩, ⟨some 29, (.move (.tmp 38)), none⟩, ⟨some 39, (.extract (.tmp 29) 0), none⟩, ⟨some 40, (.extract (.tmp 29) 1), none⟩, ⟨some 7, (.move (.tmp 39)), none⟩, ⟨some 8, (.move (.tmp 40)), none⟩]) (.clr [40, 39, 38, 37, 36, 35, 34, 33, 32, 31, 30, 29])) (.seq (.seq (.region [⟨some 41, (.move (.tmp 0)), none⟩, ⟨some 42, (.move (.tmp 1)), none⟩, ⟨some 43, (.call 10 [(.tmp 41), (.tmp 42)]), none⟩, ⟨some 9, (.move (.tmp 43)), none⟩]) (.clr [43, 42, 41])) (.seq (.seq (.seq (.region [⟨some 44, (.move (.tmp 5)), none⟩, ⟨some 45, (.b2s (.tmp 44)), none⟩, ⟨some 46, (.move (.tmp 0)), none⟩, ⟨some 47, (.b2s (.tmp 46)), none⟩, ⟨some 48, (.bin .add (.tmp 47) (.cst (.str [119]))), none⟩, ⟨some 49, (.bin .neq (.tmp 45) (.tmp 48)), none⟩, ⟨some 50, (.move (.tmp 49)), none⟩, ⟨some 51, (.move (.tmp 6)), some (50, false)⟩, ⟨some 52, (.move (.tmp 1)), some (50, false)⟩, ⟨some 53, (.lenS (.tmp 52)), some (50, false)⟩, ⟨some 54, (.iaddrS 1 (.tmp 51) (.tmp 53)), some (50, false)⟩, ⟨some 55, (.load none (.tmp 54)), some (50, false)⟩, ⟨some 56, (.bin .neq (.tmp 55) (.cst (.int .i64 77))), some (50, false)⟩, ⟨some 57, (.pick (.tmp 50) (.cst (.bool true)) (.tmp 56)), none⟩]) (.clr [56, 55, 54, 53, 52, 51, 50, 49, 48, 47, 46, 45, 44, 0])) (.cond (.tmp 57) (.seq (.clr [57, 9, 8, 7, 6, 5, 1]) (.seq (.region [⟨some 4, (.move (.cst (.bool false))), none⟩]) .ret)) (.seq (.clr [57]) .skip))) (.seq (.seq (.region [⟨some 10, (.move (.cst (.int .i64 0))), none⟩]) (.block 0 (.loop [] [] (.seq (.seq (.seq (.region [⟨some 58, (.move (.tmp 10)), none⟩, ⟨some 59, (.move (.tmp 5)), none⟩, ⟨some 60, (.lenS (.tmp 59)), none⟩, ⟨some 61, (.bin .lss (.tmp 58) (.tmp 60)), none⟩]) (.clr [60, 59, 58])) (.cond (.tmp 61) (.seq (.clr [61]) .skip) (.seq (.clr [61, 10, 5]) (.exit 0)))) (.seq (.block 1 (.seq (.region [⟨some 64, (.move (.tmp 5)), none⟩, ⟨some 65, (.move (.tmp 10)), none⟩, ⟨some 66, (.iaddrS 1 (.tmp 64) (.tmp 65)), none⟩, ⟨none, (.store 1 (.tmp 66) (.cst (.int .u8 102))), none⟩]) (.clr [66, 65, 64]))) (.seq (.region [⟨some 62, (.move (.tmp 10)), none⟩, ⟨some 63, (.bin .add (.tmp 62) (.cst (.int .i64 1))), none⟩, ⟨some 10, (.move (.tmp 63)), none⟩]) (.clr [63, 62]))))))) (.seq (.seq (.region [⟨some 11, (.move (.cst (.int .i64 0))), none⟩]) (.block 2 (.loop [] [] (.seq (.seq (.seq (.region [⟨some 67, (.move (.tmp 11)), none⟩, ⟨some 68, (.move (.tmp 1)), none⟩, ⟨some 69, (.lenS (.tmp 68)), none⟩, ⟨some 70, (.bin .lss (.tmp 67) (.tmp 69)), none⟩]) (.clr [69, 68, 67])) (.cond (.tmp 70) (.seq (.clr [70]) .skip) (.seq (.clr [70, 11, 6, 1]) (.exit 2)))) (.seq (.block 3 (.seq (.seq (.seq (.region [⟨some 73, (.move (.tmp 6)), none⟩, ⟨some 74, (.move (.tmp 11)), none⟩, ⟨some 75, (.iaddrS 1 (.tmp 73) (.tmp 74)), none⟩, ⟨some 76, (.load none (.tmp 75)), none⟩, ⟨some 77, (.move (.tmp 1)), none⟩, ⟨some 78, (.move (.tmp 11)), none⟩, ⟨some 79, (.iaddrS 1 (.tmp 77) (.tmp 78)), none⟩, ⟨some 80, (.load none (.tmp 79)), none⟩, ⟨some 81, (.bin .neq (.tmp 76) (.tmp 80)), none⟩]) (.clr [80, 79, 78, 77, 76, 75, 74, 73])) (.cond (.tmp 81) (.seq (.clr [81, 11, 9, 8, 7, 6, 1]) (.seq (.region [⟨some 4, (.move (.cst (.bool false))), none⟩]) .ret)) (.seq (.clr [81]) .skip))) (.seq (.region [⟨some 82, (.move (.tmp 6)), none⟩, ⟨some 83, (.move (.tmp 11)), none⟩, ⟨some 84, (.iaddrS 1 (.tmp 82) (.tmp 83)), none⟩, ⟨none, (.store 1 (.tmp 84) (.cst (.int .i64 5))), none⟩]) (.clr [84, 83, 82])))) (.seq (.region [⟨some 71, (.move (.tmp 11)), none⟩, ⟨some 72, (.bin .add (.tmp 71) (.cst (.int .i64 1))), none⟩, ⟨some 11, (.move (.tmp 72)), none⟩]) (.clr [72, 71]))))))) (.seq (.seq (.seq (.region [⟨some 85, (.move (.tmp 9)), none⟩, ⟨some 86, (.eqnil false NK.p (.tmp 85)), none⟩]) (.clr [85])) (.cond (.tmp 86) (.seq (.clr [86, 9]) (.seq (.seq (.region [⟨some 87, (.move (.tmp 7)), none⟩, ⟨some 88, (.eqnil false NK.p (.tmp 87)), none⟩, ⟨some 89, (.move (.tmp 88)), none⟩, ⟨some 90, (.move (.tmp 8)), some (89, true)⟩, ⟨some 91, (.call 11 [(.tmp 90)]), some (89, true)⟩, ⟨some 92, (.bin .eql (.tmp 91) (.cst (.int .i64 2))), some (89, true)⟩, ⟨some 93, (.pick (.tmp 89) (.tmp 92) (.cst (.bool false))), none⟩, ⟨some 94, (.move (.tmp 93)), none⟩, ⟨some 95, (.call 8 []), some (94, true)⟩, ⟨some 96, (.pick (.tmp 94) (.tmp 95) (.cst (.bool false))), none⟩, ⟨some 4, (.move (.tmp 96)), none⟩]) (.clr [96, 95, 94, 93, 92, 91, 90, 89, 88, 87, 8, 7])) .ret)) (.seq (.clr [86]) .skip))) (.seq (.seq (.region [⟨some 97, (.move (.tmp 7)), none⟩, ⟨some 98, (.eqnil true NK.p (.tmp 97)), none⟩, ⟨some 99, (.move (.tmp 98)), none⟩, ⟨some 100, (.move (.tmp 8)), some (99, true)⟩, ⟨some 101, (.call 11 [(.tmp 100)]), some (99, true)⟩, ⟨some 102, (.bin .eql (.tmp 101) (.cst (.int .i64 0))), some (99, true)⟩, ⟨some 103, (.pick (.tmp 99) (.tmp 102) (.cst (.bool false))), none⟩, ⟨some 104, (.move (.tmp 103)), none⟩, ⟨some 105, (.move (.tmp 7)), some (104, true)⟩, ⟨some 106, (.move (.tmp 9)), some (104, true)⟩, ⟨some 107, (.call 12 [(.tmp 105), (.tmp 106), (.cst (.int .i64 0))]), some (104, true)⟩, ⟨some 108, (.pick (.tmp 104) (.tmp 107) (.cst (.bool false))), none⟩, ⟨some 109, (.move (.tmp 108)), none⟩, ⟨some 110, (.call 8 []), some (109, true)⟩, ⟨some 111, (.pick (.tmp 109) (.tmp 110) (.cst (.bool false))), none⟩, ⟨some 4, (.move (.tmp 111)), none⟩]) (.clr [111, 110, 109, 108, 107, 106, 105, 104, 103, 102, 101, 100, 99, 98, 97, 9, 8, 7])) .ret)))))))
theorem body3 : am3.body = .seq oA (.seq oB (.seq oP oR)) := rfl
set_option maxHeartbeats 1000000 in
theorem of_pro {N n : Nat} {x y : V} {B Es : List Int} (hx : Ro .u8 B x) (hy : Ro .i64 Es y) (hB : B.length ≤ 9000) (hE : Es.length ≤ 20) :
    sx ⟨pureOf am, callA am N n, N, 0⟩ oP (fr 112 [(0, x), (1, y)]) (deads 5) fun e t h => e = .norm ∧ ∃ ob vb oe ve, t = fr 112 [(0, x), (1, y), (5, .view ob vb 0 (B.length + 1) 1 none), (6, .view oe ve 0 (Es.length + 1) 1 none)] ∧ h.length = 5 ∧
      h[ob]? = some ⟨vb, .arr ((B ++ [119]).map (V.int .u8))⟩ ∧ h[oe]? = some ⟨ve, .arr ((Es ++ [77]).map (V.int .i64))⟩ ∧ ob ≠ oe := by
  have lx := fun get => (hx.first get).1
  have fx := fun get => (hx.first get).2
  have ly := fun get => (hy.first get).1
  have fy := fun get => (hy.first get).2
  have oB := ints_one .u8 B
  have oE := ints_one .i64 Es
  have fz : ∀ get : Nat → Option Ob, firstA get 1 1 (.sl [V.int .i64 77] 1 (some 1)) = some [V.int .i64 77] := fun get => rfl
  have m1 : B.length * 1 ≤ maxBytes := by unfold maxBytes; omega
  have m2 : (B.length + 1) * 1 ≤ maxBytes := by unfold maxBytes; omega
  have m3 : Es.length * 8 ≤ maxBytes := by unfold maxBytes; omega
  have m4 : (Es.length + 1) * 8 ≤ maxBytes := by unfold maxBytes; omega
  have m5 : 1 * 1 ≤ maxBytes := by decide
  have m6 : 1 * 8 ≤ maxBytes := by decide
  by_cases hB0 : B = []
  · subst hB0
    have a1 : ∀ K : Heap, appendA (fun o => K[o]?) 0 1 1 .nils x = some (.ret .nils) := fun K => app_none (lx fun o => K[o]?) (fx fun o => K[o]?)
    have a2 : appendA (fun o => ([⟨0, .dead⟩, ⟨1, .arr [V.int .u8 119]⟩, ⟨0, .dead⟩, ⟨0, .dead⟩, ⟨0, .dead⟩] : Heap)[o]?) 2 1 1 .nils (.view 1 1 0 1 1 (some 1)) = some (.set 2 ⟨1, .arr [V.int .u8 119]⟩ (.view 2 1 0 1 1 none)) := app_new (x := ⟨0, .dead⟩) rfl rfl rfl rfl (by decide) m5
    by_cases hE0 : Es = []
    · subst hE0
      have a3 : ∀ K : Heap, appendA (fun o => K[o]?) 3 1 8 .nils y = some (.ret .nils) := fun K => app_none (ly fun o => K[o]?) (fy fun o => K[o]?)
      have a4 : ∀ p0 p1 p2 : Ob, appendA (fun o => ([p0, p1, p2, ⟨0, .dead⟩, ⟨0, .dead⟩] : Heap)[o]?) 4 1 8 .nils (.sl [V.int .i64 77] 1 (some 1)) = some (.set 4 ⟨1, .arr [V.int .i64 77]⟩ (.view 4 1 0 1 1 none)) := fun _ _ _ => app_new (x := ⟨0, .dead⟩) rfl rfl (fz _) rfl (by decide) m6
      simp +contextual -implicitDefEqProofs (maxSteps := 10000000) only [sx_seq, sxL_succ, lpQ_norm, lpQ_exit, lpQ_ret, loopQ_norm, loopQ_exit, loopQ_ret, sqQ_norm, sqQ_ret, sqQ_exit, sx_block, blkQ_norm, blkQ_exit, blkQ_ret, sx_cond, cdP_true, cdP_false, cdP_bool, sx_region, sx_draw, plainD, List.all_cons, List.all_nil, List.isEmpty_nil, List.isEmpty_cons, sxo_nil, sxo_cons, sxo_guard, gdS_bool, gdS_eff, gdS_tup, gdS_sel, gdS_seleff, sxK_def, wcall_some, effP_ret, effP_set, effP_none, effP_ite, wop_call, wop_cv, cvP_func, sx_ret, sx_exit, sx_skip, sx_clr, sx_fresh, stays, ↓selV_wt, ↓selV_wf, ↓impB_wt, ↓impB_wf, ↓selV_nor, ↓impB_nor, ↓selV_nt, ↓selV_nf, ↓impB_nt, ↓impB_nf, wantB_true, wantB_false, ↓selV_true, ↓selV_false, ↓selV_and, ↓impB_true, ↓impB_false, ↓impB_and, impB_triv, valOf_some, retH_some, ↓prim_pick, pickO_true, pickO_false, pickO_and, pickO_or, pickO_andr, pickO_orr, pickO_orrn, pickO_orn, pickO_bb, pickAnd_bool, pickOr_bool, ↓selV_nn, ↓impB_nn, Bool.and_assoc, Bool.or_assoc, doOp, ev_fr, ev_cst, put_none, put_fr, get, ins, del, dels, Nat.reduceLT, Nat.reduceEqDiff, ↓reduceIte, reduceCtorEq, ne_eq, not_false_eq_true, implies_true, framed_pureF, framed_fb, framed_N, framed_pure, wop_prim, prim, YLD, mkA, V.cells, List.getElem?_cons_zero, List.getElem?_cons_succ, List.set_cons_zero, List.set_cons_succ, Nat.zero_add, Nat.add_zero, Nat.reduceAdd, Nat.reduceSub, Nat.reduceMul, Nat.reduceLeDiff, Nat.not_lt_zero, List.map_cons, List.map_nil, List.cons_append, List.nil_append, loadA, cellsAt, nAg, packA, opt_bind_some, opt_map_some, opt_bind_none, opt_map_none, List.drop, List.take, List.head?, List.length_cons, List.length_nil, binA, unA, eqCells, eqCell, negB, fillA, sr_nil, sr_cons, sr_succ, sr_all, sr_len, storeA, Ob.with, indexedI, V.oneCell, intOf?, retQ_ret, retQ_norm, resA, resA1, fr_getD, packR, sealDepth, shut_bool, shut_int, Option.some.injEq, V.bool.injEq, V.int.injEq, Bool.not_true, Bool.not_false, true_and, and_true, and_self, Bool.and_true, Bool.and_false, Bool.true_and, Bool.false_and, Bool.or_true, Bool.or_false, Bool.true_or, Bool.false_or, Bool.false_eq_true, Int.reduceLT, Int.reduceLE, Int.reduceToNat, Int.reduceNeg, shut_plain, freeL_cons, freeL_nil, free_int, free_bool, free_agg, free_str, free_nils, free_tup, free_sl, true_implies, false_implies, Nat.sub_zero, Int.natCast_nonneg, Int.toNat_natCast, Nat.le_refl, not_true_eq_false, Int.reduceAdd, Int.reduceSub, Int.reduceMul, wrap64, false_and, and_false, cond_true, cond_false, Bool.cond_true_left, Bool.cond_false_right, Int.reduceBNe, Int.reduceBEq, decide_true, decide_false, Int.cast_ofNat_Int, Nat.mul_one, eq_self, Bool.true_eq_false, Bool.not_eq_true, Bool.not_eq_false, deads, List.replicate, argsF, oP, a1, a2, a3, a4, mkA, wrapV, List.range, List.range.loop]
      exact ⟨2, 1, 4, 1, rfl, rfl, rfl, by decide⟩
    · have e0 : Es.length ≠ 0 := fun h => hE0 (List.eq_nil_of_length_eq_zero h)
      have a3 : ∀ p0 p1 p2 : Ob, appendA (fun o => ([p0, p1, p2, ⟨0, .dead⟩, ⟨0, .dead⟩] : Heap)[o]?) 3 1 8 .nils y = some (.set 3 ⟨1, .arr (Es.map (V.int .i64))⟩ (.view 3 1 0 Es.length 1 none)) := fun p0 p1 p2 => app_new (x := ⟨0, .dead⟩) rfl (ly fun _ => none) (fy _) oE e0 m3
      have a4 : ∀ p0 p1 p2 : Ob, appendA (fun o => ([p0, p1, p2, ⟨1, .arr (Es.map (V.int .i64))⟩, ⟨0, .dead⟩] : Heap)[o]?) 4 1 8 (.view 3 1 0 Es.length 1 none) (.sl [V.int .i64 77] 1 (some 1)) = some (.set 3 ⟨2, .arr (Es.map (V.int .i64) ++ [V.int .i64 77])⟩ (.view 3 2 0 (Es.length + 1) 1 none)) := fun _ _ _ => app_more rfl rfl (fz _) rfl (by decide) (by simp) m4
      simp +contextual -implicitDefEqProofs (maxSteps := 10000000) only [sx_seq, sxL_succ, lpQ_norm, lpQ_exit, lpQ_ret, loopQ_norm, loopQ_exit, loopQ_ret, sqQ_norm, sqQ_ret, sqQ_exit, sx_block, blkQ_norm, blkQ_exit, blkQ_ret, sx_cond, cdP_true, cdP_false, cdP_bool, sx_region, sx_draw, plainD, List.all_cons, List.all_nil, List.isEmpty_nil, List.isEmpty_cons, sxo_nil, sxo_cons, sxo_guard, gdS_bool, gdS_eff, gdS_tup, gdS_sel, gdS_seleff, sxK_def, wcall_some, effP_ret, effP_set, effP_none, effP_ite, wop_call, wop_cv, cvP_func, sx_ret, sx_exit, sx_skip, sx_clr, sx_fresh, stays, ↓selV_wt, ↓selV_wf, ↓impB_wt, ↓impB_wf, ↓selV_nor, ↓impB_nor, ↓selV_nt, ↓selV_nf, ↓impB_nt, ↓impB_nf, wantB_true, wantB_false, ↓selV_true, ↓selV_false, ↓selV_and, ↓impB_true, ↓impB_false, ↓impB_and, impB_triv, valOf_some, retH_some, ↓prim_pick, pickO_true, pickO_false, pickO_and, pickO_or, pickO_andr, pickO_orr, pickO_orrn, pickO_orn, pickO_bb, pickAnd_bool, pickOr_bool, ↓selV_nn, ↓impB_nn, Bool.and_assoc, Bool.or_assoc, doOp, ev_fr, ev_cst, put_none, put_fr, get, ins, del, dels, Nat.reduceLT, Nat.reduceEqDiff, ↓reduceIte, reduceCtorEq, ne_eq, not_false_eq_true, implies_true, framed_pureF, framed_fb, framed_N, framed_pure, wop_prim, prim, YLD, mkA, V.cells, List.getElem?_cons_zero, List.getElem?_cons_succ, List.set_cons_zero, List.set_cons_succ, Nat.zero_add, Nat.add_zero, Nat.reduceAdd, Nat.reduceSub, Nat.reduceMul, Nat.reduceLeDiff, Nat.not_lt_zero, List.map_cons, List.map_nil, List.cons_append, List.nil_append, loadA, cellsAt, nAg, packA, opt_bind_some, opt_map_some, opt_bind_none, opt_map_none, List.drop, List.take, List.head?, List.length_cons, List.length_nil, binA, unA, eqCells, eqCell, negB, fillA, sr_nil, sr_cons, sr_succ, sr_all, sr_len, storeA, Ob.with, indexedI, V.oneCell, intOf?, retQ_ret, retQ_norm, resA, resA1, fr_getD, packR, sealDepth, shut_bool, shut_int, Option.some.injEq, V.bool.injEq, V.int.injEq, Bool.not_true, Bool.not_false, true_and, and_true, and_self, Bool.and_true, Bool.and_false, Bool.true_and, Bool.false_and, Bool.or_true, Bool.or_false, Bool.true_or, Bool.false_or, Bool.false_eq_true, Int.reduceLT, Int.reduceLE, Int.reduceToNat, Int.reduceNeg, shut_plain, freeL_cons, freeL_nil, free_int, free_bool, free_agg, free_str, free_nils, free_tup, free_sl, true_implies, false_implies, Nat.sub_zero, Int.natCast_nonneg, Int.toNat_natCast, Nat.le_refl, not_true_eq_false, Int.reduceAdd, Int.reduceSub, Int.reduceMul, wrap64, false_and, and_false, cond_true, cond_false, Bool.cond_true_left, Bool.cond_false_right, Int.reduceBNe, Int.reduceBEq, decide_true, decide_false, Int.cast_ofNat_Int, Nat.mul_one, eq_self, Bool.true_eq_false, Bool.not_eq_true, Bool.not_eq_false, deads, List.replicate, argsF, oP, a1, a2, a3, a4, mkA, wrapV, List.range, List.range.loop]
      exact ⟨2, 1, 3, 2, rfl, rfl, by simp, by decide⟩
  · have b0 : B.length ≠ 0 := fun h => hB0 (List.eq_nil_of_length_eq_zero h)
    have a1 : appendA (fun o => ([⟨0, .dead⟩, ⟨0, .dead⟩, ⟨0, .dead⟩, ⟨0, .dead⟩, ⟨0, .dead⟩] : Heap)[o]?) 0 1 1 .nils x = some (.set 0 ⟨1, .arr (B.map (V.int .u8))⟩ (.view 0 1 0 B.length 1 none)) := app_new (x := ⟨0, .dead⟩) rfl (lx fun _ => none) (fx _) oB b0 m1
    have a2 : appendA (fun o => ([⟨1, .arr (B.map (V.int .u8))⟩, ⟨1, .arr [V.int .u8 119]⟩, ⟨0, .dead⟩, ⟨0, .dead⟩, ⟨0, .dead⟩] : Heap)[o]?) 2 1 1 (.view 0 1 0 B.length 1 none) (.view 1 1 0 1 1 (some 1)) = some (.set 0 ⟨2, .arr (B.map (V.int .u8) ++ [V.int .u8 119])⟩ (.view 0 2 0 (B.length + 1) 1 none)) := app_more rfl rfl rfl rfl (by decide) (by simp) m2
    by_cases hE0 : Es = []
    · subst hE0
      have a3 : ∀ K : Heap, appendA (fun o => K[o]?) 3 1 8 .nils y = some (.ret .nils) := fun K => app_none (ly fun o => K[o]?) (fy fun o => K[o]?)
      have a4 : ∀ p0 p1 p2 : Ob, appendA (fun o => ([p0, p1, p2, ⟨0, .dead⟩, ⟨0, .dead⟩] : Heap)[o]?) 4 1 8 .nils (.sl [V.int .i64 77] 1 (some 1)) = some (.set 4 ⟨1, .arr [V.int .i64 77]⟩ (.view 4 1 0 1 1 none)) := fun _ _ _ => app_new (x := ⟨0, .dead⟩) rfl rfl (fz _) rfl (by decide) m6
      simp +contextual -implicitDefEqProofs (maxSteps := 10000000) only [sx_seq, sxL_succ, lpQ_norm, lpQ_exit, lpQ_ret, loopQ_norm, loopQ_exit, loopQ_ret, sqQ_norm, sqQ_ret, sqQ_exit, sx_block, blkQ_norm, blkQ_exit, blkQ_ret, sx_cond, cdP_true, cdP_false, cdP_bool, sx_region, sx_draw, plainD, List.all_cons, List.all_nil, List.isEmpty_nil, List.isEmpty_cons, sxo_nil, sxo_cons, sxo_guard, gdS_bool, gdS_eff, gdS_tup, gdS_sel, gdS_seleff, sxK_def, wcall_some, effP_ret, effP_set, effP_none, effP_ite, wop_call, wop_cv, cvP_func, sx_ret, sx_exit, sx_skip, sx_clr, sx_fresh, stays, ↓selV_wt, ↓selV_wf, ↓impB_wt, ↓impB_wf, ↓selV_nor, ↓impB_nor, ↓selV_nt, ↓selV_nf, ↓impB_nt, ↓impB_nf, wantB_true, wantB_false, ↓selV_true, ↓selV_false, ↓selV_and, ↓impB_true, ↓impB_false, ↓impB_and, impB_triv, valOf_some, retH_some, ↓prim_pick, pickO_true, pickO_false, pickO_and, pickO_or, pickO_andr, pickO_orr, pickO_orrn, pickO_orn, pickO_bb, pickAnd_bool, pickOr_bool, ↓selV_nn, ↓impB_nn, Bool.and_assoc, Bool.or_assoc, doOp, ev_fr, ev_cst, put_none, put_fr, get, ins, del, dels, Nat.reduceLT, Nat.reduceEqDiff, ↓reduceIte, reduceCtorEq, ne_eq, not_false_eq_true, implies_true, framed_pureF, framed_fb, framed_N, framed_pure, wop_prim, prim, YLD, mkA, V.cells, List.getElem?_cons_zero, List.getElem?_cons_succ, List.set_cons_zero, List.set_cons_succ, Nat.zero_add, Nat.add_zero, Nat.reduceAdd, Nat.reduceSub, Nat.reduceMul, Nat.reduceLeDiff, Nat.not_lt_zero, List.map_cons, List.map_nil, List.cons_append, List.nil_append, loadA, cellsAt, nAg, packA, opt_bind_some, opt_map_some, opt_bind_none, opt_map_none, List.drop, List.take, List.head?, List.length_cons, List.length_nil, binA, unA, eqCells, eqCell, negB, fillA, sr_nil, sr_cons, sr_succ, sr_all, sr_len, storeA, Ob.with, indexedI, V.oneCell, intOf?, retQ_ret, retQ_norm, resA, resA1, fr_getD, packR, sealDepth, shut_bool, shut_int, Option.some.injEq, V.bool.injEq, V.int.injEq, Bool.not_true, Bool.not_false, true_and, and_true, and_self, Bool.and_true, Bool.and_false, Bool.true_and, Bool.false_and, Bool.or_true, Bool.or_false, Bool.true_or, Bool.false_or, Bool.false_eq_true, Int.reduceLT, Int.reduceLE, Int.reduceToNat, Int.reduceNeg, shut_plain, freeL_cons, freeL_nil, free_int, free_bool, free_agg, free_str, free_nils, free_tup, free_sl, true_implies, false_implies, Nat.sub_zero, Int.natCast_nonneg, Int.toNat_natCast, Nat.le_refl, not_true_eq_false, Int.reduceAdd, Int.reduceSub, Int.reduceMul, wrap64, false_and, and_false, cond_true, cond_false, Bool.cond_true_left, Bool.cond_false_right, Int.reduceBNe, Int.reduceBEq, decide_true, decide_false, Int.cast_ofNat_Int, Nat.mul_one, eq_self, Bool.true_eq_false, Bool.not_eq_true, Bool.not_eq_false, deads, List.replicate, argsF, oP, a1, a2, a3, a4, mkA, wrapV, List.range, List.range.loop]
      exact ⟨0, 2, 4, 1, rfl, by simp, rfl, by decide⟩
    · have e0 : Es.length ≠ 0 := fun h => hE0 (List.eq_nil_of_length_eq_zero h)
      have a3 : ∀ p0 p1 p2 : Ob, appendA (fun o => ([p0, p1, p2, ⟨0, .dead⟩, ⟨0, .dead⟩] : Heap)[o]?) 3 1 8 .nils y = some (.set 3 ⟨1, .arr (Es.map (V.int .i64))⟩ (.view 3 1 0 Es.length 1 none)) := fun p0 p1 p2 => app_new (x := ⟨0, .dead⟩) rfl (ly fun _ => none) (fy _) oE e0 m3
      have a4 : ∀ p0 p1 p2 : Ob, appendA (fun o => ([p0, p1, p2, ⟨1, .arr (Es.map (V.int .i64))⟩, ⟨0, .dead⟩] : Heap)[o]?) 4 1 8 (.view 3 1 0 Es.length 1 none) (.sl [V.int .i64 77] 1 (some 1)) = some (.set 3 ⟨2, .arr (Es.map (V.int .i64) ++ [V.int .i64 77])⟩ (.view 3 2 0 (Es.length + 1) 1 none)) := fun _ _ _ => app_more rfl rfl (fz _) rfl (by decide) (by simp) m4
      simp +contextual -implicitDefEqProofs (maxSteps := 10000000) only [sx_seq, sxL_succ, lpQ_norm, lpQ_exit, lpQ_ret, loopQ_norm, loopQ_exit, loopQ_ret, sqQ_norm, sqQ_ret, sqQ_exit, sx_block, blkQ_norm, blkQ_exit, blkQ_ret, sx_cond, cdP_true, cdP_false, cdP_bool, sx_region, sx_draw, plainD, List.all_cons, List.all_nil, List.isEmpty_nil, List.isEmpty_cons, sxo_nil, sxo_cons, sxo_guard, gdS_bool, gdS_eff, gdS_tup, gdS_sel, gdS_seleff, sxK_def, wcall_some, effP_ret, effP_set, effP_none, effP_ite, wop_call, wop_cv, cvP_func, sx_ret, sx_exit, sx_skip, sx_clr, sx_fresh, stays, ↓selV_wt, ↓selV_wf, ↓impB_wt, ↓impB_wf, ↓selV_nor, ↓impB_nor, ↓selV_nt, ↓selV_nf, ↓impB_nt, ↓impB_nf, wantB_true, wantB_false, ↓selV_true, ↓selV_false, ↓selV_and, ↓impB_true, ↓impB_false, ↓impB_and, impB_triv, valOf_some, retH_some, ↓prim_pick, pickO_true, pickO_false, pickO_and, pickO_or, pickO_andr, pickO_orr, pickO_orrn, pickO_orn, pickO_bb, pickAnd_bool, pickOr_bool, ↓selV_nn, ↓impB_nn, Bool.and_assoc, Bool.or_assoc, doOp, ev_fr, ev_cst, put_none, put_fr, get, ins, del, dels, Nat.reduceLT, Nat.reduceEqDiff, ↓reduceIte, reduceCtorEq, ne_eq, not_false_eq_true, implies_true, framed_pureF, framed_fb, framed_N, framed_pure, wop_prim, prim, YLD, mkA, V.cells, List.getElem?_cons_zero, List.getElem?_cons_succ, List.set_cons_zero, List.set_cons_succ, Nat.zero_add, Nat.add_zero, Nat.reduceAdd, Nat.reduceSub, Nat.reduceMul, Nat.reduceLeDiff, Nat.not_lt_zero, List.map_cons, List.map_nil, List.cons_append, List.nil_append, loadA, cellsAt, nAg, packA, opt_bind_some, opt_map_some, opt_bind_none, opt_map_none, List.drop, List.take, List.head?, List.length_cons, List.length_nil, binA, unA, eqCells, eqCell, negB, fillA, sr_nil, sr_cons, sr_succ, sr_all, sr_len, storeA, Ob.with, indexedI, V.oneCell, intOf?, retQ_ret, retQ_norm, resA, resA1, fr_getD, packR, sealDepth, shut_bool, shut_int, Option.some.injEq, V.bool.injEq, V.int.injEq, Bool.not_true, Bool.not_false, true_and, and_true, and_self, Bool.and_true, Bool.and_false, Bool.true_and, Bool.false_and, Bool.or_true, Bool.or_false, Bool.true_or, Bool.false_or, Bool.false_eq_true, Int.reduceLT, Int.reduceLE, Int.reduceToNat, Int.reduceNeg, shut_plain, freeL_cons, freeL_nil, free_int, free_bool, free_agg, free_str, free_nils, free_tup, free_sl, true_implies, false_implies, Nat.sub_zero, Int.natCast_nonneg, Int.toNat_natCast, Nat.le_refl, not_true_eq_false, Int.reduceAdd, Int.reduceSub, Int.reduceMul, wrap64, false_and, and_false, cond_true, cond_false, Bool.cond_true_left, Bool.cond_false_right, Int.reduceBNe, Int.reduceBEq, decide_true, decide_false, Int.cast_ofNat_Int, Nat.mul_one, eq_self, Bool.true_eq_false, Bool.not_eq_true, Bool.not_eq_false, deads, List.replicate, argsF, oP, a1, a2, a3, a4, mkA, wrapV, List.range, List.range.loop]
      exact ⟨0, 2, 3, 2, rfl, by simp, by simp, by decide⟩
end Go.Am.T


set_option linter.unusedVariables false
set_option linter.unusedSimpArgs false
set_option maxRecDepth 10000
namespace Go.Am.T
attribute [local congr] selV_congr impB_congr
theorem slice_head {K : Heap} {ob vb len : Nat} {cells : List V} (ho : K[ob]? = some ⟨vb, .arr cells⟩) (hc : cells.length = len + 1) :
    sliceA (fun o => K[o]?) 1 (.view ob vb 0 (len + 1) 1 none) none (some (.int .i64 (len : Nat))) none = some (.view ob vb 0 len 1 none) := by
  have h1 : (len : Int) ≤ ((len + 1 : Nat) : Int) := by omega
  have h0 : (0 : Int) ≤ (len : Int) := by omega
  have h2 : ((len : Nat) : Int).toNat = len := Int.toNat_natCast len
  simp only [sliceA, ↓reduceIte, cellsAt, ho, boundsA, Option.isNone, intOf?, Option.bind_some, h0, h1, h2, hc, Nat.sub_zero, Nat.div_one]
theorem strB_app (l : List Int) : strB (l ++ [119]) = strB l ++ [119] := by
  rw [strB, List.map_append]; rfl
def fives (Es : List Int) (i : Nat) : List Int := List.replicate i 5 ++ (Es ++ [77]).drop i
theorem fives_len {Es : List Int} {i : Nat} (hi : i ≤ Es.length) : (fives Es i).length = Es.length + 1 := by
  simp [fives]; omega
theorem fives_at {Es : List Int} {i : Nat} (hi : i < Es.length) : List.take 1 (List.drop i ((fives Es i).map (V.int .i64))) = [.int .i64 Es[i]] := by
  rw [← List.map_drop, fives, List.drop_left' (by simp), List.drop_eq_getElem_cons (by simp; omega), List.getElem_append_left hi]
  rfl
theorem fives_set {Es : List Int} {i : Nat} (hi : i < Es.length) : setRange ((fives Es i).map (V.int .i64)) i [.int .i64 5] = (fives Es (i + 1)).map (V.int .i64) := by
  have e : (Es ++ [77]).drop i = Es[i] :: (Es ++ [77]).drop (i + 1) := by rw [List.drop_eq_getElem_cons (by simp; omega), List.getElem_append_left hi]
  have e2 : (List.replicate i (5 : Int) ++ (Es[i] :: (Es ++ [77]).drop (i + 1))).map (V.int .i64) = (List.replicate i (5 : Int)).map (V.int .i64) ++ (V.int .i64 Es[i] :: ((Es ++ [77]).drop (i + 1)).map (V.int .i64)) := by simp
  have hl : ((List.replicate i (5 : Int)).map (V.int .i64)).length = i := by simp
  rw [show fives Es i = List.replicate i 5 ++ (Es ++ [77]).drop i from rfl, e, e2, show fives Es (i + 1) = List.replicate (i + 1) 5 ++ (Es ++ [77]).drop (i + 1) from rfl, List.replicate_succ', List.append_assoc, List.map_append]
  generalize (List.replicate i (5 : Int)).map (V.int .i64) = A at hl ⊢
  subst hl
  unfold setRange
  rw [List.take_left', List.drop_append, List.drop_eq_nil_of_le (by simp)]
  · simp
  · rfl
theorem setR_len {C : List V} {i : Nat} {v : V} (hi : i < C.length) : (setRange C i [v]).length = C.length := setRange_length C i [v] (by simp; omega)
set_option maxHeartbeats 4000000 in
theorem of_rest {N n : Nat} (hN : 300000 < N) (hn : 22 ≤ n) {x y : V} {B Es : List Int} (hx : Ro .u8 B x) (hy : Ro .i64 Es y) (hB : B.length ≤ 9000) (hE : Es.length ≤ 20) {ob vb oe ve : Nat} {K : Heap} (hK : K.length = 5)
    (hob : K[ob]? = some ⟨vb, .arr ((B ++ [119]).map (V.int .u8))⟩) (hoe : K[oe]? = some ⟨ve, .arr ((Es ++ [77]).map (V.int .i64))⟩) (hne : ob ≠ oe) :
    sx ⟨pureOf am, callA am N n, N, 0⟩ oR (fr 112 [(0, x), (1, y), (5, .view ob vb 0 (B.length + 1) 1 none), (6, .view oe ve 0 (Es.length + 1) 1 none)]) K
      (retQ am3.res fun x h' => V.shut (fun o => h'[o]?) sealDepth x = some (.bool true)) := by
  have lx := (hx.first fun _ => none).1
  have ly := (hy.first fun _ => none).1
  have iy := hy.isL.at_
  have nx := hx.isL.nstr
  have ny := hy.isL.nstr
  have s1 := @slice_head K ob vb B.length _ hob (by simp)
  have s2 := @slice_head K oe ve Es.length _ hoe (by simp)
  obtain ⟨H1, c9, l1, k1, d1⟩ := @of_spec N n hN (by omega) K ob vb oe ve none B [119] Es [77] hob hoe (by omega) (by omega)
  obtain ⟨H2, c10, l2, k2, r2⟩ := @rof_spec N n hN (by omega) H1 x y B Es (Rd.of_isL hx.isL) (Rd.of_isL hy.isL) (by omega) (by omega)
  have hob' := lt_of_get hob
  have hoe' := lt_of_get hoe
  have hob2 : H2[ob]? = some ⟨vb, .arr ((B ++ [119]).map (V.int .u8))⟩ := by rw [k2 ob (by omega), k1 ob hob']; exact hob
  have hoe2 : H2[oe]? = some ⟨ve, .arr ((Es ++ [77]).map (V.int .i64))⟩ := by rw [k2 oe (by omega), k1 oe hoe']; exact hoe
  have p1 := @b2s_view (fun o => H2[o]?) (B ++ [119]) ob vb none hob2
  simp only [List.length_append, List.length_cons, List.length_nil, Nat.zero_add] at p1
  have p2 := @b2s_row (fun o => H2[o]?) B x hx
  have hsl : (strB B).length ≤ 4611686018427387903 := by simp [strB]; omega
  have b3 : ∀ x : List UInt8, (x != x) = false := fun x => by simp
  have b2 : ∀ x : Int, (x != x) = false := fun x => by simp
  have t77 : List.take 1 (List.drop Es.length ((Es ++ [77]).map (V.int .i64))) = [.int .i64 77] := by
    rw [← List.map_drop, List.drop_left' rfl]; rfl
  have i0 : (0 : Int) ≤ (Es.length : Int) := by omega
  have i1 : (Es.length : Int) < ((Es.length + 1 : Nat) : Int) := by omega
  have le77 : Es.length + 1 ≤ ((Es ++ [77]).map (V.int .i64)).length := by simp
  have c8 := @known_spec N n (by omega) (by omega)
  have c11 := fun x K => @num_spec N n (by omega) x K
  have dvK : ∀ K' : Heap, (∀ p, 5 ≤ p → K'[p]? = H2[p]?) → (ofOk B Es = true → DAt K' (K.length + 1) K.length (ofD B Es)) := fun K' h go =>
    (d1 go).keep fun p hp => by
      have hlt := (d1 go).lt
      have : p < H1.length := by rcases hp with rfl | rfl; exact hlt.1; exact hlt.2
      rw [h p (by omega), k2 p this]
  have rvK : ∀ K' : Heap, (∀ p, 5 ≤ p → K'[p]? = H2[p]?) → (ofOk B Es = true → RAt K' (H1.length + 2) H1.length (H1.length + 1) (ofD B Es)) := fun K' h go =>
    (r2 go).keep fun p hp => h p (by omega)
  obtain ⟨pv, er, ht, hp1, hp0⟩ : ∃ (pv : V) (er : Int), (bif ofOk B Es then [V.ptr (K.length + 1) 1 0, V.int .i64 0] else [V.nilp, V.int .i64 2]) = [pv, V.int .i64 er] ∧ (ofOk B Es = true → pv = .ptr (K.length + 1) 1 0 ∧ er = 0) ∧ (ofOk B Es = false → pv = .nilp ∧ er = 2) := by
    cases ofOk B Es
    · exact ⟨_, _, rfl, fun h => (by cases h), fun _ => ⟨rfl, rfl⟩⟩
    · exact ⟨_, _, rfl, fun _ => ⟨rfl, rfl⟩, fun h => (by cases h)⟩
  obtain ⟨rv, hr, hr1, hr0⟩ : ∃ (rv : V), (bif ofOk B Es then V.ptr (H1.length + 2) 1 0 else V.nilp) = rv ∧ (ofOk B Es = true → rv = .ptr (H1.length + 2) 1 0) ∧ (ofOk B Es = false → rv = .nilp) := by
    cases ofOk B Es
    · exact ⟨_, rfl, fun h => (by cases h), fun _ => rfl⟩
    · exact ⟨_, rfl, fun _ => rfl, fun h => (by cases h)⟩
  rw [ht] at c9
  rw [hr] at c10
  clear d1 r2 k1 k2 ht hr
  simp +contextual -implicitDefEqProofs (maxSteps := 10000000) only [sx_seq, sxL_succ, lpQ_norm, lpQ_exit, lpQ_ret, loopQ_norm, loopQ_exit, loopQ_ret, sqQ_norm, sqQ_ret, sqQ_exit, sx_block, blkQ_norm, blkQ_exit, blkQ_ret, sx_cond, cdP_true, cdP_false, cdP_bool, sx_region, sx_draw, plainD, List.all_cons, List.all_nil, List.isEmpty_nil, List.isEmpty_cons, sxo_nil, sxo_cons, sxo_guard, gdS_bool, gdS_eff, gdS_tup, gdS_sel, gdS_seleff, sxK_def, wcall_some, effP_ret, effP_set, effP_none, effP_ite, wop_call, wop_cv, cvP_func, sx_ret, sx_exit, sx_skip, sx_clr, sx_fresh, stays, ↓selV_wt, ↓selV_wf, ↓impB_wt, ↓impB_wf, ↓selV_nor, ↓impB_nor, ↓selV_nt, ↓selV_nf, ↓impB_nt, ↓impB_nf, wantB_true, wantB_false, ↓selV_true, ↓selV_false, ↓selV_and, ↓impB_true, ↓impB_false, ↓impB_and, impB_triv, valOf_some, retH_some, ↓prim_pick, pickO_true, pickO_false, pickO_and, pickO_or, pickO_andr, pickO_orr, pickO_orrn, pickO_orn, pickO_bb, pickAnd_bool, pickOr_bool, ↓selV_nn, ↓impB_nn, Bool.and_assoc, Bool.or_assoc, doOp, ev_fr, ev_cst, put_none, put_fr, get, ins, del, dels, Nat.reduceLT, Nat.reduceEqDiff, ↓reduceIte, reduceCtorEq, ne_eq, not_false_eq_true, implies_true, framed_pureF, framed_fb, framed_N, framed_pure, wop_prim, prim, YLD, mkA, V.cells, List.getElem?_cons_zero, List.getElem?_cons_succ, List.set_cons_zero, List.set_cons_succ, Nat.zero_add, Nat.add_zero, Nat.reduceAdd, Nat.reduceSub, Nat.reduceMul, Nat.reduceLeDiff, Nat.not_lt_zero, List.map_cons, List.map_nil, List.cons_append, List.nil_append, loadA, cellsAt, nAg, packA, opt_bind_some, opt_map_some, opt_bind_none, opt_map_none, List.drop, List.take, List.head?, List.length_cons, List.length_nil, binA, unA, eqCells, eqCell, negB, fillA, sr_nil, sr_cons, sr_succ, sr_all, sr_len, storeA, Ob.with, indexedI, V.oneCell, intOf?, retQ_ret, retQ_norm, resA, resA1, fr_getD, packR, sealDepth, shut_bool, shut_int, Option.some.injEq, V.bool.injEq, V.int.injEq, Bool.not_true, Bool.not_false, true_and, and_true, and_self, Bool.and_true, Bool.and_false, Bool.true_and, Bool.false_and, Bool.or_true, Bool.or_false, Bool.true_or, Bool.false_or, Bool.false_eq_true, Int.reduceLT, Int.reduceLE, Int.reduceToNat, Int.reduceNeg, shut_plain, freeL_cons, freeL_nil, free_int, free_bool, free_agg, free_str, free_nils, free_tup, free_sl, true_implies, false_implies, Nat.sub_zero, Int.natCast_nonneg, Int.toNat_natCast, Nat.le_refl, not_true_eq_false, Int.reduceAdd, Int.reduceSub, Int.reduceMul, wrap64, false_and, and_false, cond_true, cond_false, Bool.cond_true_left, Bool.cond_false_right, Int.reduceBNe, Int.reduceBEq, decide_true, decide_false, Int.cast_ofNat_Int, Nat.mul_one, eq_self, Bool.true_eq_false, Bool.not_eq_true, Bool.not_eq_false, deads, List.replicate, argsF, oR, s1, s2, c9, c10, lenA_view, lx, ly, ↓p1, ↓p2, strB_app, hsl, b3, beq_self_eq_true, iaddrSA, i0, i1, hob2, hoe2, le77, t77, b2, Int.toNat_natCast]
  refine sx_loop (fun i t K' => i ≤ B.length + 1 ∧ t = fr 112 [(1, y), (5, .view ob vb 0 (B.length + 1) 1 none), (6, .view oe ve 0 (Es.length + 1) 1 none), (7, pv), (8, .int .i64 er), (9, rv), (10, .int .i64 i)] ∧
    (∃ C, C.length = B.length + 1 ∧ K'[ob]? = some ⟨vb, .arr C⟩) ∧ ∀ p, p ≠ ob → K'[p]? = H2[p]?) (B.length + 1) (by show B.length + 1 < N; omega) ⟨Nat.zero_le _, rfl, ⟨_, by simp, hob2⟩, fun p _ => rfl⟩ ?_
  rintro i t K' hi ⟨hi', rfl, ⟨C, hC, hKo⟩, hKk⟩
  by_cases hlt : i < B.length + 1
  · have g1 : decide ((i : Int) < ((B.length + 1 : Nat) : Int)) = true := decide_eq_true (by omega)
    have w4 : IntKind.i64.wrap ((i : Int) + 1) = ((i + 1 : Nat) : Int) := (wrap64 (by omega) (by omega)).trans (by omega)
    have j0 : (0 : Int) ≤ (i : Int) := by omega
    have j1 : (i : Int) < ((B.length + 1 : Nat) : Int) := by omega
    have le : i + 1 ≤ B.length + 1 := by omega
    have sl := @setR_len C i (V.int .u8 102) (by omega)
    have gs : ∀ z : Ob, (K'.set ob z)[ob]? = some z := fun z => List.getElem?_set_self (lt_of_get hKo)
    have gn : ∀ (z : Ob) (p : Nat), p ≠ ob → (K'.set ob z)[p]? = K'[p]? := fun z p hp => List.getElem?_set_ne (Ne.symm hp)
    simp +contextual -implicitDefEqProofs (maxSteps := 10000000) only [sx_seq, sxL_succ, lpQ_norm, lpQ_exit, lpQ_ret, loopQ_norm, loopQ_exit, loopQ_ret, sqQ_norm, sqQ_ret, sqQ_exit, sx_block, blkQ_norm, blkQ_exit, blkQ_ret, sx_cond, cdP_true, cdP_false, cdP_bool, sx_region, sx_draw, plainD, List.all_cons, List.all_nil, List.isEmpty_nil, List.isEmpty_cons, sxo_nil, sxo_cons, sxo_guard, gdS_bool, gdS_eff, gdS_tup, gdS_sel, gdS_seleff, sxK_def, wcall_some, effP_ret, effP_set, effP_none, effP_ite, wop_call, wop_cv, cvP_func, sx_ret, sx_exit, sx_skip, sx_clr, sx_fresh, stays, ↓selV_wt, ↓selV_wf, ↓impB_wt, ↓impB_wf, ↓selV_nor, ↓impB_nor, ↓selV_nt, ↓selV_nf, ↓impB_nt, ↓impB_nf, wantB_true, wantB_false, ↓selV_true, ↓selV_false, ↓selV_and, ↓impB_true, ↓impB_false, ↓impB_and, impB_triv, valOf_some, retH_some, ↓prim_pick, pickO_true, pickO_false, pickO_and, pickO_or, pickO_andr, pickO_orr, pickO_orrn, pickO_orn, pickO_bb, pickAnd_bool, pickOr_bool, ↓selV_nn, ↓impB_nn, Bool.and_assoc, Bool.or_assoc, doOp, ev_fr, ev_cst, put_none, put_fr, get, ins, del, dels, Nat.reduceLT, Nat.reduceEqDiff, ↓reduceIte, reduceCtorEq, ne_eq, not_false_eq_true, implies_true, framed_pureF, framed_fb, framed_N, framed_pure, wop_prim, prim, YLD, mkA, V.cells, List.getElem?_cons_zero, List.getElem?_cons_succ, List.set_cons_zero, List.set_cons_succ, Nat.zero_add, Nat.add_zero, Nat.reduceAdd, Nat.reduceSub, Nat.reduceMul, Nat.reduceLeDiff, Nat.not_lt_zero, List.map_cons, List.map_nil, List.cons_append, List.nil_append, loadA, cellsAt, nAg, packA, opt_bind_some, opt_map_some, opt_bind_none, opt_map_none, List.drop, List.take, List.head?, List.length_cons, List.length_nil, binA, unA, eqCells, eqCell, negB, fillA, sr_nil, sr_cons, sr_succ, sr_all, sr_len, storeA, Ob.with, indexedI, V.oneCell, intOf?, retQ_ret, retQ_norm, resA, resA1, fr_getD, packR, sealDepth, shut_bool, shut_int, Option.some.injEq, V.bool.injEq, V.int.injEq, Bool.not_true, Bool.not_false, true_and, and_true, and_self, Bool.and_true, Bool.and_false, Bool.true_and, Bool.false_and, Bool.or_true, Bool.or_false, Bool.true_or, Bool.false_or, Bool.false_eq_true, Int.reduceLT, Int.reduceLE, Int.reduceToNat, Int.reduceNeg, shut_plain, freeL_cons, freeL_nil, free_int, free_bool, free_agg, free_str, free_nils, free_tup, free_sl, true_implies, false_implies, Nat.sub_zero, Int.natCast_nonneg, Int.toNat_natCast, Nat.le_refl, not_true_eq_false, Int.reduceAdd, Int.reduceSub, Int.reduceMul, wrap64, false_and, and_false, cond_true, cond_false, Bool.cond_true_left, Bool.cond_false_right, Int.reduceBNe, Int.reduceBEq, decide_true, decide_false, Int.cast_ofNat_Int, Nat.mul_one, eq_self, Bool.true_eq_false, Bool.not_eq_true, Bool.not_eq_false, deads, List.replicate, argsF, g1, lenA_view, iaddrSA, j0, j1, hKo, hC, le, Int.toNat_natCast, w4, hlt]
    exact ⟨⟨_, by rw [sl]; exact hC, gs _⟩, fun p hp => by rw [gn _ p hp]; exact hKk p hp⟩
  · have e8 : i = B.length + 1 := by omega
    subst e8
    have g1 : decide (((B.length + 1 : Nat) : Int) < ((B.length + 1 : Nat) : Int)) = false := decide_eq_false (by omega)
    have hoe3 : K'[oe]? = some ⟨ve, .arr ((fives Es 0).map (V.int .i64))⟩ := by rw [hKk oe (Ne.symm hne)]; exact hoe2
    have hk5 : ∀ p, 5 ≤ p → K'[p]? = H2[p]? := fun p hp => hKk p (by omega)
    clear hKo hKk hC C
    simp +contextual -implicitDefEqProofs (maxSteps := 10000000) only [sx_seq, sxL_succ, lpQ_norm, lpQ_exit, lpQ_ret, loopQ_norm, loopQ_exit, loopQ_ret, sqQ_norm, sqQ_ret, sqQ_exit, sx_block, blkQ_norm, blkQ_exit, blkQ_ret, sx_cond, cdP_true, cdP_false, cdP_bool, sx_region, sx_draw, plainD, List.all_cons, List.all_nil, List.isEmpty_nil, List.isEmpty_cons, sxo_nil, sxo_cons, sxo_guard, gdS_bool, gdS_eff, gdS_tup, gdS_sel, gdS_seleff, sxK_def, wcall_some, effP_ret, effP_set, effP_none, effP_ite, wop_call, wop_cv, cvP_func, sx_ret, sx_exit, sx_skip, sx_clr, sx_fresh, stays, ↓selV_wt, ↓selV_wf, ↓impB_wt, ↓impB_wf, ↓selV_nor, ↓impB_nor, ↓selV_nt, ↓selV_nf, ↓impB_nt, ↓impB_nf, wantB_true, wantB_false, ↓selV_true, ↓selV_false, ↓selV_and, ↓impB_true, ↓impB_false, ↓impB_and, impB_triv, valOf_some, retH_some, ↓prim_pick, pickO_true, pickO_false, pickO_and, pickO_or, pickO_andr, pickO_orr, pickO_orrn, pickO_orn, pickO_bb, pickAnd_bool, pickOr_bool, ↓selV_nn, ↓impB_nn, Bool.and_assoc, Bool.or_assoc, doOp, ev_fr, ev_cst, put_none, put_fr, get, ins, del, dels, Nat.reduceLT, Nat.reduceEqDiff, ↓reduceIte, reduceCtorEq, ne_eq, not_false_eq_true, implies_true, framed_pureF, framed_fb, framed_N, framed_pure, wop_prim, prim, YLD, mkA, V.cells, List.getElem?_cons_zero, List.getElem?_cons_succ, List.set_cons_zero, List.set_cons_succ, Nat.zero_add, Nat.add_zero, Nat.reduceAdd, Nat.reduceSub, Nat.reduceMul, Nat.reduceLeDiff, Nat.not_lt_zero, List.map_cons, List.map_nil, List.cons_append, List.nil_append, loadA, cellsAt, nAg, packA, opt_bind_some, opt_map_some, opt_bind_none, opt_map_none, List.drop, List.take, List.head?, List.length_cons, List.length_nil, binA, unA, eqCells, eqCell, negB, fillA, sr_nil, sr_cons, sr_succ, sr_all, sr_len, storeA, Ob.with, indexedI, V.oneCell, intOf?, retQ_ret, retQ_norm, resA, resA1, fr_getD, packR, sealDepth, shut_bool, shut_int, Option.some.injEq, V.bool.injEq, V.int.injEq, Bool.not_true, Bool.not_false, true_and, and_true, and_self, Bool.and_true, Bool.and_false, Bool.true_and, Bool.false_and, Bool.or_true, Bool.or_false, Bool.true_or, Bool.false_or, Bool.false_eq_true, Int.reduceLT, Int.reduceLE, Int.reduceToNat, Int.reduceNeg, shut_plain, freeL_cons, freeL_nil, free_int, free_bool, free_agg, free_str, free_nils, free_tup, free_sl, true_implies, false_implies, Nat.sub_zero, Int.natCast_nonneg, Int.toNat_natCast, Nat.le_refl, not_true_eq_false, Int.reduceAdd, Int.reduceSub, Int.reduceMul, wrap64, false_and, and_false, cond_true, cond_false, Bool.cond_true_left, Bool.cond_false_right, Int.reduceBNe, Int.reduceBEq, decide_true, decide_false, Int.cast_ofNat_Int, Nat.mul_one, eq_self, Bool.true_eq_false, Bool.not_eq_true, Bool.not_eq_false, deads, List.replicate, argsF, g1, lenA_view]
    refine sx_loop (fun i t K' => i ≤ Es.length ∧ t = fr 112 [(1, y), (6, .view oe ve 0 (Es.length + 1) 1 none), (7, pv), (8, .int .i64 er), (9, rv), (11, .int .i64 i)] ∧
      K'[oe]? = some ⟨ve, .arr ((fives Es i).map (V.int .i64))⟩ ∧ ∀ p, 5 ≤ p → K'[p]? = H2[p]?) Es.length (by show Es.length < N; omega) ⟨Nat.zero_le _, rfl, hoe3, hk5⟩ ?_
    clear hoe3 hk5 hi hi' hlt g1
    rintro i t K'' hi ⟨hi', rfl, hKo, hKk⟩
    by_cases hlt : i < Es.length
    · have g1 : decide ((i : Int) < (Es.length : Int)) = true := decide_eq_true (by omega)
      have w4 : IntKind.i64.wrap ((i : Int) + 1) = ((i + 1 : Nat) : Int) := (wrap64 (by omega) (by omega)).trans (by omega)
      have j0 : (0 : Int) ≤ (i : Int) := by omega
      have j1 : (i : Int) < ((Es.length + 1 : Nat) : Int) := by omega
      have le : i + 1 ≤ Es.length + 1 := by omega
      have hi1 : i + 1 ≤ Es.length := by omega
      have fl := @fives_len Es i hi'
      have fl' : ((fives Es i).map (V.int .i64)).length = Es.length + 1 := by rw [List.length_map]; exact fl
      have fa := @fives_at Es i hlt
      have fs := @fives_set Es i hlt
      have iy' := iy i
      rw [List.getElem?_map, List.getElem?_eq_getElem hlt] at iy'
      simp only [Option.map_some] at iy'
      have gs : ∀ z : Ob, (K''.set oe z)[oe]? = some z := fun z => List.getElem?_set_self (lt_of_get hKo)
      have gn : ∀ (z : Ob) (p : Nat), 5 ≤ p → (K''.set oe z)[p]? = K''[p]? := fun z p hp => List.getElem?_set_ne (by omega)
      simp +contextual -implicitDefEqProofs (maxSteps := 10000000) only [sx_seq, sxL_succ, lpQ_norm, lpQ_exit, lpQ_ret, loopQ_norm, loopQ_exit, loopQ_ret, sqQ_norm, sqQ_ret, sqQ_exit, sx_block, blkQ_norm, blkQ_exit, blkQ_ret, sx_cond, cdP_true, cdP_false, cdP_bool, sx_region, sx_draw, plainD, List.all_cons, List.all_nil, List.isEmpty_nil, List.isEmpty_cons, sxo_nil, sxo_cons, sxo_guard, gdS_bool, gdS_eff, gdS_tup, gdS_sel, gdS_seleff, sxK_def, wcall_some, effP_ret, effP_set, effP_none, effP_ite, wop_call, wop_cv, cvP_func, sx_ret, sx_exit, sx_skip, sx_clr, sx_fresh, stays, ↓selV_wt, ↓selV_wf, ↓impB_wt, ↓impB_wf, ↓selV_nor, ↓impB_nor, ↓selV_nt, ↓selV_nf, ↓impB_nt, ↓impB_nf, wantB_true, wantB_false, ↓selV_true, ↓selV_false, ↓selV_and, ↓impB_true, ↓impB_false, ↓impB_and, impB_triv, valOf_some, retH_some, ↓prim_pick, pickO_true, pickO_false, pickO_and, pickO_or, pickO_andr, pickO_orr, pickO_orrn, pickO_orn, pickO_bb, pickAnd_bool, pickOr_bool, ↓selV_nn, ↓impB_nn, Bool.and_assoc, Bool.or_assoc, doOp, ev_fr, ev_cst, put_none, put_fr, get, ins, del, dels, Nat.reduceLT, Nat.reduceEqDiff, ↓reduceIte, reduceCtorEq, ne_eq, not_false_eq_true, implies_true, framed_pureF, framed_fb, framed_N, framed_pure, wop_prim, prim, YLD, mkA, V.cells, List.getElem?_cons_zero, List.getElem?_cons_succ, List.set_cons_zero, List.set_cons_succ, Nat.zero_add, Nat.add_zero, Nat.reduceAdd, Nat.reduceSub, Nat.reduceMul, Nat.reduceLeDiff, Nat.not_lt_zero, List.map_cons, List.map_nil, List.cons_append, List.nil_append, loadA, cellsAt, nAg, packA, opt_bind_some, opt_map_some, opt_bind_none, opt_map_none, List.drop, List.take, List.head?, List.length_cons, List.length_nil, binA, unA, eqCells, eqCell, negB, fillA, sr_nil, sr_cons, sr_succ, sr_all, sr_len, storeA, Ob.with, indexedI, V.oneCell, intOf?, retQ_ret, retQ_norm, resA, resA1, fr_getD, packR, sealDepth, shut_bool, shut_int, Option.some.injEq, V.bool.injEq, V.int.injEq, Bool.not_true, Bool.not_false, true_and, and_true, and_self, Bool.and_true, Bool.and_false, Bool.true_and, Bool.false_and, Bool.or_true, Bool.or_false, Bool.true_or, Bool.false_or, Bool.false_eq_true, Int.reduceLT, Int.reduceLE, Int.reduceToNat, Int.reduceNeg, shut_plain, freeL_cons, freeL_nil, free_int, free_bool, free_agg, free_str, free_nils, free_tup, free_sl, true_implies, false_implies, Nat.sub_zero, Int.natCast_nonneg, Int.toNat_natCast, Nat.le_refl, not_true_eq_false, Int.reduceAdd, Int.reduceSub, Int.reduceMul, wrap64, false_and, and_false, cond_true, cond_false, Bool.cond_true_left, Bool.cond_false_right, Int.reduceBNe, Int.reduceBEq, decide_true, decide_false, Int.cast_ofNat_Int, Nat.mul_one, eq_self, Bool.true_eq_false, Bool.not_eq_true, Bool.not_eq_false, deads, List.replicate, argsF, g1, lenA_view, ly, iaddrS_v, j0, j1, hKo, fl', fa, fs, le, iy', b2, Int.toNat_natCast, w4, hlt, hi1]
      exact ⟨gs _, fun p hp => by rw [gn _ p hp]; exact hKk p hp⟩
    · have e8 : i = Es.length := by omega
      subst e8
      have g1 : decide ((Es.length : Int) < (Es.length : Int)) = false := decide_eq_false (by omega)
      have dv := dvK K'' hKk
      have rvv := rvK K'' hKk
      cases go : ofOk B Es with
      | false =>
        obtain ⟨rfl, rfl⟩ := hp0 go
        obtain rfl := hr0 go
        simp +contextual -implicitDefEqProofs (maxSteps := 10000000) only [sx_seq, sxL_succ, lpQ_norm, lpQ_exit, lpQ_ret, loopQ_norm, loopQ_exit, loopQ_ret, sqQ_norm, sqQ_ret, sqQ_exit, sx_block, blkQ_norm, blkQ_exit, blkQ_ret, sx_cond, cdP_true, cdP_false, cdP_bool, sx_region, sx_draw, plainD, List.all_cons, List.all_nil, List.isEmpty_nil, List.isEmpty_cons, sxo_nil, sxo_cons, sxo_guard, gdS_bool, gdS_eff, gdS_tup, gdS_sel, gdS_seleff, sxK_def, wcall_some, effP_ret, effP_set, effP_none, effP_ite, wop_call, wop_cv, cvP_func, sx_ret, sx_exit, sx_skip, sx_clr, sx_fresh, stays, ↓selV_wt, ↓selV_wf, ↓impB_wt, ↓impB_wf, ↓selV_nor, ↓impB_nor, ↓selV_nt, ↓selV_nf, ↓impB_nt, ↓impB_nf, wantB_true, wantB_false, ↓selV_true, ↓selV_false, ↓selV_and, ↓impB_true, ↓impB_false, ↓impB_and, impB_triv, valOf_some, retH_some, ↓prim_pick, pickO_true, pickO_false, pickO_and, pickO_or, pickO_andr, pickO_orr, pickO_orrn, pickO_orn, pickO_bb, pickAnd_bool, pickOr_bool, ↓selV_nn, ↓impB_nn, Bool.and_assoc, Bool.or_assoc, doOp, ev_fr, ev_cst, put_none, put_fr, get, ins, del, dels, Nat.reduceLT, Nat.reduceEqDiff, ↓reduceIte, reduceCtorEq, ne_eq, not_false_eq_true, implies_true, framed_pureF, framed_fb, framed_N, framed_pure, wop_prim, prim, YLD, mkA, V.cells, List.getElem?_cons_zero, List.getElem?_cons_succ, List.set_cons_zero, List.set_cons_succ, Nat.zero_add, Nat.add_zero, Nat.reduceAdd, Nat.reduceSub, Nat.reduceMul, Nat.reduceLeDiff, Nat.not_lt_zero, List.map_cons, List.map_nil, List.cons_append, List.nil_append, loadA, cellsAt, nAg, packA, opt_bind_some, opt_map_some, opt_bind_none, opt_map_none, List.drop, List.take, List.head?, List.length_cons, List.length_nil, binA, unA, eqCells, eqCell, negB, fillA, sr_nil, sr_cons, sr_succ, sr_all, sr_len, storeA, Ob.with, indexedI, V.oneCell, intOf?, retQ_ret, retQ_norm, resA, resA1, fr_getD, packR, sealDepth, shut_bool, shut_int, Option.some.injEq, V.bool.injEq, V.int.injEq, Bool.not_true, Bool.not_false, true_and, and_true, and_self, Bool.and_true, Bool.and_false, Bool.true_and, Bool.false_and, Bool.or_true, Bool.or_false, Bool.true_or, Bool.false_or, Bool.false_eq_true, Int.reduceLT, Int.reduceLE, Int.reduceToNat, Int.reduceNeg, shut_plain, freeL_cons, freeL_nil, free_int, free_bool, free_agg, free_str, free_nils, free_tup, free_sl, true_implies, false_implies, Nat.sub_zero, Int.natCast_nonneg, Int.toNat_natCast, Nat.le_refl, not_true_eq_false, Int.reduceAdd, Int.reduceSub, Int.reduceMul, wrap64, false_and, and_false, cond_true, cond_false, Bool.cond_true_left, Bool.cond_false_right, Int.reduceBNe, Int.reduceBEq, decide_true, decide_false, Int.cast_ofNat_Int, Nat.mul_one, eq_self, Bool.true_eq_false, Bool.not_eq_true, Bool.not_eq_false, deads, List.replicate, argsF, g1, lenA_view, ly, isNil, c11, pm11, c8, pm8, am3]
      | true =>
        obtain ⟨rfl, rfl⟩ := hp1 go
        obtain rfl := hr1 go
        obtain ⟨L, c12⟩ := @stands_spec N n (by omega) (by omega) K'' (K.length + 1) K.length (H1.length + 2) H1.length (H1.length + 1) (ofD B Es) (dv go) (rvv go) 0
        simp +contextual -implicitDefEqProofs (maxSteps := 10000000) only [sx_seq, sxL_succ, lpQ_norm, lpQ_exit, lpQ_ret, loopQ_norm, loopQ_exit, loopQ_ret, sqQ_norm, sqQ_ret, sqQ_exit, sx_block, blkQ_norm, blkQ_exit, blkQ_ret, sx_cond, cdP_true, cdP_false, cdP_bool, sx_region, sx_draw, plainD, List.all_cons, List.all_nil, List.isEmpty_nil, List.isEmpty_cons, sxo_nil, sxo_cons, sxo_guard, gdS_bool, gdS_eff, gdS_tup, gdS_sel, gdS_seleff, sxK_def, wcall_some, effP_ret, effP_set, effP_none, effP_ite, wop_call, wop_cv, cvP_func, sx_ret, sx_exit, sx_skip, sx_clr, sx_fresh, stays, ↓selV_wt, ↓selV_wf, ↓impB_wt, ↓impB_wf, ↓selV_nor, ↓impB_nor, ↓selV_nt, ↓selV_nf, ↓impB_nt, ↓impB_nf, wantB_true, wantB_false, ↓selV_true, ↓selV_false, ↓selV_and, ↓impB_true, ↓impB_false, ↓impB_and, impB_triv, valOf_some, retH_some, ↓prim_pick, pickO_true, pickO_false, pickO_and, pickO_or, pickO_andr, pickO_orr, pickO_orrn, pickO_orn, pickO_bb, pickAnd_bool, pickOr_bool, ↓selV_nn, ↓impB_nn, Bool.and_assoc, Bool.or_assoc, doOp, ev_fr, ev_cst, put_none, put_fr, get, ins, del, dels, Nat.reduceLT, Nat.reduceEqDiff, ↓reduceIte, reduceCtorEq, ne_eq, not_false_eq_true, implies_true, framed_pureF, framed_fb, framed_N, framed_pure, wop_prim, prim, YLD, mkA, V.cells, List.getElem?_cons_zero, List.getElem?_cons_succ, List.set_cons_zero, List.set_cons_succ, Nat.zero_add, Nat.add_zero, Nat.reduceAdd, Nat.reduceSub, Nat.reduceMul, Nat.reduceLeDiff, Nat.not_lt_zero, List.map_cons, List.map_nil, List.cons_append, List.nil_append, loadA, cellsAt, nAg, packA, opt_bind_some, opt_map_some, opt_bind_none, opt_map_none, List.drop, List.take, List.head?, List.length_cons, List.length_nil, binA, unA, eqCells, eqCell, negB, fillA, sr_nil, sr_cons, sr_succ, sr_all, sr_len, storeA, Ob.with, indexedI, V.oneCell, intOf?, retQ_ret, retQ_norm, resA, resA1, fr_getD, packR, sealDepth, shut_bool, shut_int, Option.some.injEq, V.bool.injEq, V.int.injEq, Bool.not_true, Bool.not_false, true_and, and_true, and_self, Bool.and_true, Bool.and_false, Bool.true_and, Bool.false_and, Bool.or_true, Bool.or_false, Bool.true_or, Bool.false_or, Bool.false_eq_true, Int.reduceLT, Int.reduceLE, Int.reduceToNat, Int.reduceNeg, shut_plain, freeL_cons, freeL_nil, free_int, free_bool, free_agg, free_str, free_nils, free_tup, free_sl, true_implies, false_implies, Nat.sub_zero, Int.natCast_nonneg, Int.toNat_natCast, Nat.le_refl, not_true_eq_false, Int.reduceAdd, Int.reduceSub, Int.reduceMul, wrap64, false_and, and_false, cond_true, cond_false, Bool.cond_true_left, Bool.cond_false_right, Int.reduceBNe, Int.reduceBEq, decide_true, decide_false, Int.cast_ofNat_Int, Nat.mul_one, eq_self, Bool.true_eq_false, Bool.not_eq_true, Bool.not_eq_false, deads, List.replicate, argsF, g1, lenA_view, ly, isNil, c11, pm11, c8, pm8, pm12, c12, am3]
end Go.Am.T


set_option linter.unusedVariables false
set_option linter.unusedSimpArgs false
set_option maxRecDepth 10000
namespace Go.Am.T
attribute [local congr] selV_congr impB_congr
theorem am3_wp {N n : Nat} {args : List V} {h : Heap} {v : V} (ha : args.length = 2) (hfree : V.freeL args = true)
    (H : wp ⟨pureOf am, callA am N n, N, 0⟩ am3.body (fr am3.nt (argsF 0 args)) (deads am3.sites) (retQ am3.res fun x h' => V.shut (fun o => h'[o]?) sealDepth x = some v)) : callA am N (n + 1) 3 args h = some (v, h) :=
  call_auto at3 rfl ha (by decide) hfree H
theorem ofAB {N n : Nat} {x y : V} {B Es : List Int} (hx : Ro .u8 B x) (hy : Ro .i64 Es y) (hB : B.length ≤ 9000) (hE : Es.length ≤ 20) :
    (sx ⟨pureOf am, callA am N n, N, 0⟩ oA (fr 112 [(0, x), (1, y)]) (deads 5) fun e t h => e = .norm ∧ t = fr 112 [(0, x), (1, y)] ∧ h = deads 5) ∧
    (sx ⟨pureOf am, callA am N n, N, 0⟩ oB (fr 112 [(0, x), (1, y)]) (deads 5) fun e t h => e = .norm ∧ t = fr 112 [(0, x), (1, y)] ∧ h = deads 5) := by
  have lx := (hx.first fun _ => none).1
  have ly := (hy.first fun _ => none).1
  have nx := hx.isL.nstr
  have ny := hy.isL.nstr
  have g1 : decide ((B.length : Int) > 9000) = false := decide_eq_false (by omega)
  have g2 : decide ((Es.length : Int) > 20) = false := decide_eq_false (by omega)
  constructor
  · simp +contextual -implicitDefEqProofs (maxSteps := 10000000) only [sx_seq, sxL_succ, lpQ_norm, lpQ_exit, lpQ_ret, loopQ_norm, loopQ_exit, loopQ_ret, sqQ_norm, sqQ_ret, sqQ_exit, sx_block, blkQ_norm, blkQ_exit, blkQ_ret, sx_cond, cdP_true, cdP_false, cdP_bool, sx_region, sx_draw, plainD, List.all_cons, List.all_nil, List.isEmpty_nil, List.isEmpty_cons, sxo_nil, sxo_cons, sxo_guard, gdS_bool, gdS_eff, gdS_tup, gdS_sel, gdS_seleff, sxK_def, wcall_some, effP_ret, effP_set, effP_none, effP_ite, wop_call, wop_cv, cvP_func, sx_ret, sx_exit, sx_skip, sx_clr, sx_fresh, stays, ↓selV_wt, ↓selV_wf, ↓impB_wt, ↓impB_wf, ↓selV_nor, ↓impB_nor, ↓selV_nt, ↓selV_nf, ↓impB_nt, ↓impB_nf, wantB_true, wantB_false, ↓selV_true, ↓selV_false, ↓selV_and, ↓impB_true, ↓impB_false, ↓impB_and, impB_triv, valOf_some, retH_some, ↓prim_pick, pickO_true, pickO_false, pickO_and, pickO_or, pickO_andr, pickO_orr, pickO_orrn, pickO_orn, pickO_bb, pickAnd_bool, pickOr_bool, ↓selV_nn, ↓impB_nn, Bool.and_assoc, Bool.or_assoc, doOp, ev_fr, ev_cst, put_none, put_fr, get, ins, del, dels, Nat.reduceLT, Nat.reduceEqDiff, ↓reduceIte, reduceCtorEq, ne_eq, not_false_eq_true, implies_true, framed_pureF, framed_fb, framed_N, framed_pure, wop_prim, prim, YLD, mkA, V.cells, List.getElem?_cons_zero, List.getElem?_cons_succ, List.set_cons_zero, List.set_cons_succ, Nat.zero_add, Nat.add_zero, Nat.reduceAdd, Nat.reduceSub, Nat.reduceMul, Nat.reduceLeDiff, Nat.not_lt_zero, List.map_cons, List.map_nil, List.cons_append, List.nil_append, loadA, cellsAt, nAg, packA, opt_bind_some, opt_map_some, opt_bind_none, opt_map_none, List.drop, List.take, List.head?, List.length_cons, List.length_nil, binA, unA, eqCells, eqCell, negB, fillA, sr_nil, sr_cons, sr_succ, sr_all, sr_len, storeA, Ob.with, indexedI, V.oneCell, intOf?, retQ_ret, retQ_norm, resA, resA1, fr_getD, packR, sealDepth, shut_bool, shut_int, Option.some.injEq, V.bool.injEq, V.int.injEq, Bool.not_true, Bool.not_false, true_and, and_true, and_self, Bool.and_true, Bool.and_false, Bool.true_and, Bool.false_and, Bool.or_true, Bool.or_false, Bool.true_or, Bool.false_or, Bool.false_eq_true, Int.reduceLT, Int.reduceLE, Int.reduceToNat, Int.reduceNeg, shut_plain, freeL_cons, freeL_nil, free_int, free_bool, free_agg, free_str, free_nils, free_tup, free_sl, true_implies, false_implies, Nat.sub_zero, Int.natCast_nonneg, Int.toNat_natCast, Nat.le_refl, not_true_eq_false, Int.reduceAdd, Int.reduceSub, Int.reduceMul, wrap64, false_and, and_false, cond_true, cond_false, Bool.cond_true_left, Bool.cond_false_right, Int.reduceBNe, Int.reduceBEq, decide_true, decide_false, Int.cast_ofNat_Int, Nat.mul_one, eq_self, Bool.true_eq_false, Bool.not_eq_true, Bool.not_eq_false, deads, List.replicate, argsF, oA]
  · simp +contextual -implicitDefEqProofs (maxSteps := 10000000) only [sx_seq, sxL_succ, lpQ_norm, lpQ_exit, lpQ_ret, loopQ_norm, loopQ_exit, loopQ_ret, sqQ_norm, sqQ_ret, sqQ_exit, sx_block, blkQ_norm, blkQ_exit, blkQ_ret, sx_cond, cdP_true, cdP_false, cdP_bool, sx_region, sx_draw, plainD, List.all_cons, List.all_nil, List.isEmpty_nil, List.isEmpty_cons, sxo_nil, sxo_cons, sxo_guard, gdS_bool, gdS_eff, gdS_tup, gdS_sel, gdS_seleff, sxK_def, wcall_some, effP_ret, effP_set, effP_none, effP_ite, wop_call, wop_cv, cvP_func, sx_ret, sx_exit, sx_skip, sx_clr, sx_fresh, stays, ↓selV_wt, ↓selV_wf, ↓impB_wt, ↓impB_wf, ↓selV_nor, ↓impB_nor, ↓selV_nt, ↓selV_nf, ↓impB_nt, ↓impB_nf, wantB_true, wantB_false, ↓selV_true, ↓selV_false, ↓selV_and, ↓impB_true, ↓impB_false, ↓impB_and, impB_triv, valOf_some, retH_some, ↓prim_pick, pickO_true, pickO_false, pickO_and, pickO_or, pickO_andr, pickO_orr, pickO_orrn, pickO_orn, pickO_bb, pickAnd_bool, pickOr_bool, ↓selV_nn, ↓impB_nn, Bool.and_assoc, Bool.or_assoc, doOp, ev_fr, ev_cst, put_none, put_fr, get, ins, del, dels, Nat.reduceLT, Nat.reduceEqDiff, ↓reduceIte, reduceCtorEq, ne_eq, not_false_eq_true, implies_true, framed_pureF, framed_fb, framed_N, framed_pure, wop_prim, prim, YLD, mkA, V.cells, List.getElem?_cons_zero, List.getElem?_cons_succ, List.set_cons_zero, List.set_cons_succ, Nat.zero_add, Nat.add_zero, Nat.reduceAdd, Nat.reduceSub, Nat.reduceMul, Nat.reduceLeDiff, Nat.not_lt_zero, List.map_cons, List.map_nil, List.cons_append, List.nil_append, loadA, cellsAt, nAg, packA, opt_bind_some, opt_map_some, opt_bind_none, opt_map_none, List.drop, List.take, List.head?, List.length_cons, List.length_nil, binA, unA, eqCells, eqCell, negB, fillA, sr_nil, sr_cons, sr_succ, sr_all, sr_len, storeA, Ob.with, indexedI, V.oneCell, intOf?, retQ_ret, retQ_norm, resA, resA1, fr_getD, packR, sealDepth, shut_bool, shut_int, Option.some.injEq, V.bool.injEq, V.int.injEq, Bool.not_true, Bool.not_false, true_and, and_true, and_self, Bool.and_true, Bool.and_false, Bool.true_and, Bool.false_and, Bool.or_true, Bool.or_false, Bool.true_or, Bool.false_or, Bool.false_eq_true, Int.reduceLT, Int.reduceLE, Int.reduceToNat, Int.reduceNeg, shut_plain, freeL_cons, freeL_nil, free_int, free_bool, free_agg, free_str, free_nils, free_tup, free_sl, true_implies, false_implies, Nat.sub_zero, Int.natCast_nonneg, Int.toNat_natCast, Nat.le_refl, not_true_eq_false, Int.reduceAdd, Int.reduceSub, Int.reduceMul, wrap64, false_and, and_false, cond_true, cond_false, Bool.cond_true_left, Bool.cond_false_right, Int.reduceBNe, Int.reduceBEq, decide_true, decide_false, Int.cast_ofNat_Int, Nat.mul_one, eq_self, Bool.true_eq_false, Bool.not_eq_true, Bool.not_eq_false, deads, List.replicate, argsF, oB, lx, ly, g1, g2]
theorem devOf_long {N n : Nat} (hN : 5000 ≤ N) (hn : 20 ≤ n) {x y : V} {B Es : List Int} (hx : Ro .u8 B x) (hy : Ro .i64 Es y) (hl : ¬ (B.length ≤ 9000 ∧ Es.length ≤ 20)) (h : Heap) : callA am N (n + 1) 3 [x, y] h = some (.bool true, h) := by
  have lx := (hx.first fun _ => none).1
  have ly := (hy.first fun _ => none).1
  have nx := hx.isL.nstr
  have ny := hy.isL.nstr
  have c8 := @known_spec N n (by omega) (by omega)
  have hfree : V.freeL [x, y] = true := by simp [freeL_cons, freeL_nil, hx.isL.free, hy.isL.free]
  refine am3_wp rfl hfree (sx_wp ?_)
  by_cases h1 : B.length ≤ 9000
  · have g1 : decide ((B.length : Int) > 9000) = false := decide_eq_false (by omega)
    have g2 : decide ((Es.length : Int) > 20) = true := decide_eq_true (by omega)
    simp +contextual -implicitDefEqProofs (maxSteps := 10000000) only [sx_seq, sxL_succ, lpQ_norm, lpQ_exit, lpQ_ret, loopQ_norm, loopQ_exit, loopQ_ret, sqQ_norm, sqQ_ret, sqQ_exit, sx_block, blkQ_norm, blkQ_exit, blkQ_ret, sx_cond, cdP_true, cdP_false, cdP_bool, sx_region, sx_draw, plainD, List.all_cons, List.all_nil, List.isEmpty_nil, List.isEmpty_cons, sxo_nil, sxo_cons, sxo_guard, gdS_bool, gdS_eff, gdS_tup, gdS_sel, gdS_seleff, sxK_def, wcall_some, effP_ret, effP_set, effP_none, effP_ite, wop_call, wop_cv, cvP_func, sx_ret, sx_exit, sx_skip, sx_clr, sx_fresh, stays, ↓selV_wt, ↓selV_wf, ↓impB_wt, ↓impB_wf, ↓selV_nor, ↓impB_nor, ↓selV_nt, ↓selV_nf, ↓impB_nt, ↓impB_nf, wantB_true, wantB_false, ↓selV_true, ↓selV_false, ↓selV_and, ↓impB_true, ↓impB_false, ↓impB_and, impB_triv, valOf_some, retH_some, ↓prim_pick, pickO_true, pickO_false, pickO_and, pickO_or, pickO_andr, pickO_orr, pickO_orrn, pickO_orn, pickO_bb, pickAnd_bool, pickOr_bool, ↓selV_nn, ↓impB_nn, Bool.and_assoc, Bool.or_assoc, doOp, ev_fr, ev_cst, put_none, put_fr, get, ins, del, dels, Nat.reduceLT, Nat.reduceEqDiff, ↓reduceIte, reduceCtorEq, ne_eq, not_false_eq_true, implies_true, framed_pureF, framed_fb, framed_N, framed_pure, wop_prim, prim, YLD, mkA, V.cells, List.getElem?_cons_zero, List.getElem?_cons_succ, List.set_cons_zero, List.set_cons_succ, Nat.zero_add, Nat.add_zero, Nat.reduceAdd, Nat.reduceSub, Nat.reduceMul, Nat.reduceLeDiff, Nat.not_lt_zero, List.map_cons, List.map_nil, List.cons_append, List.nil_append, loadA, cellsAt, nAg, packA, opt_bind_some, opt_map_some, opt_bind_none, opt_map_none, List.drop, List.take, List.head?, List.length_cons, List.length_nil, binA, unA, eqCells, eqCell, negB, fillA, sr_nil, sr_cons, sr_succ, sr_all, sr_len, storeA, Ob.with, indexedI, V.oneCell, intOf?, retQ_ret, retQ_norm, resA, resA1, fr_getD, packR, sealDepth, shut_bool, shut_int, Option.some.injEq, V.bool.injEq, V.int.injEq, Bool.not_true, Bool.not_false, true_and, and_true, and_self, Bool.and_true, Bool.and_false, Bool.true_and, Bool.false_and, Bool.or_true, Bool.or_false, Bool.true_or, Bool.false_or, Bool.false_eq_true, Int.reduceLT, Int.reduceLE, Int.reduceToNat, Int.reduceNeg, shut_plain, freeL_cons, freeL_nil, free_int, free_bool, free_agg, free_str, free_nils, free_tup, free_sl, true_implies, false_implies, Nat.sub_zero, Int.natCast_nonneg, Int.toNat_natCast, Nat.le_refl, not_true_eq_false, Int.reduceAdd, Int.reduceSub, Int.reduceMul, wrap64, false_and, and_false, cond_true, cond_false, Bool.cond_true_left, Bool.cond_false_right, Int.reduceBNe, Int.reduceBEq, decide_true, decide_false, Int.cast_ofNat_Int, Nat.mul_one, eq_self, Bool.true_eq_false, Bool.not_eq_true, Bool.not_eq_false, deads, List.replicate, argsF, am3, lx, ly, g1, g2, c8, pm8]
  · have g1 : decide ((B.length : Int) > 9000) = true := decide_eq_true (by omega)
    simp +contextual -implicitDefEqProofs (maxSteps := 10000000) only [sx_seq, sxL_succ, lpQ_norm, lpQ_exit, lpQ_ret, loopQ_norm, loopQ_exit, loopQ_ret, sqQ_norm, sqQ_ret, sqQ_exit, sx_block, blkQ_norm, blkQ_exit, blkQ_ret, sx_cond, cdP_true, cdP_false, cdP_bool, sx_region, sx_draw, plainD, List.all_cons, List.all_nil, List.isEmpty_nil, List.isEmpty_cons, sxo_nil, sxo_cons, sxo_guard, gdS_bool, gdS_eff, gdS_tup, gdS_sel, gdS_seleff, sxK_def, wcall_some, effP_ret, effP_set, effP_none, effP_ite, wop_call, wop_cv, cvP_func, sx_ret, sx_exit, sx_skip, sx_clr, sx_fresh, stays, ↓selV_wt, ↓selV_wf, ↓impB_wt, ↓impB_wf, ↓selV_nor, ↓impB_nor, ↓selV_nt, ↓selV_nf, ↓impB_nt, ↓impB_nf, wantB_true, wantB_false, ↓selV_true, ↓selV_false, ↓selV_and, ↓impB_true, ↓impB_false, ↓impB_and, impB_triv, valOf_some, retH_some, ↓prim_pick, pickO_true, pickO_false, pickO_and, pickO_or, pickO_andr, pickO_orr, pickO_orrn, pickO_orn, pickO_bb, pickAnd_bool, pickOr_bool, ↓selV_nn, ↓impB_nn, Bool.and_assoc, Bool.or_assoc, doOp, ev_fr, ev_cst, put_none, put_fr, get, ins, del, dels, Nat.reduceLT, Nat.reduceEqDiff, ↓reduceIte, reduceCtorEq, ne_eq, not_false_eq_true, implies_true, framed_pureF, framed_fb, framed_N, framed_pure, wop_prim, prim, YLD, mkA, V.cells, List.getElem?_cons_zero, List.getElem?_cons_succ, List.set_cons_zero, List.set_cons_succ, Nat.zero_add, Nat.add_zero, Nat.reduceAdd, Nat.reduceSub, Nat.reduceMul, Nat.reduceLeDiff, Nat.not_lt_zero, List.map_cons, List.map_nil, List.cons_append, List.nil_append, loadA, cellsAt, nAg, packA, opt_bind_some, opt_map_some, opt_bind_none, opt_map_none, List.drop, List.take, List.head?, List.length_cons, List.length_nil, binA, unA, eqCells, eqCell, negB, fillA, sr_nil, sr_cons, sr_succ, sr_all, sr_len, storeA, Ob.with, indexedI, V.oneCell, intOf?, retQ_ret, retQ_norm, resA, resA1, fr_getD, packR, sealDepth, shut_bool, shut_int, Option.some.injEq, V.bool.injEq, V.int.injEq, Bool.not_true, Bool.not_false, true_and, and_true, and_self, Bool.and_true, Bool.and_false, Bool.true_and, Bool.false_and, Bool.or_true, Bool.or_false, Bool.true_or, Bool.false_or, Bool.false_eq_true, Int.reduceLT, Int.reduceLE, Int.reduceToNat, Int.reduceNeg, shut_plain, freeL_cons, freeL_nil, free_int, free_bool, free_agg, free_str, free_nils, free_tup, free_sl, true_implies, false_implies, Nat.sub_zero, Int.natCast_nonneg, Int.toNat_natCast, Nat.le_refl, not_true_eq_false, Int.reduceAdd, Int.reduceSub, Int.reduceMul, wrap64, false_and, and_false, cond_true, cond_false, Bool.cond_true_left, Bool.cond_false_right, Int.reduceBNe, Int.reduceBEq, decide_true, decide_false, Int.cast_ofNat_Int, Nat.mul_one, eq_self, Bool.true_eq_false, Bool.not_eq_true, Bool.not_eq_false, deads, List.replicate, argsF, am3, lx, ly, g1, c8, pm8]
attribute [local irreducible] oA oB oP oR
theorem devOf_spec {N n : Nat} (hN : 300000 < N) (hn : 23 ≤ n) {x y : V} {B Es : List Int} (hx : Ro .u8 B x) (hy : Ro .i64 Es y) (h : Heap) : callA am N n 3 [x, y] h = some (.bool true, h) := by
  obtain ⟨n, rfl⟩ : ∃ m, n = m + 1 := ⟨n - 1, by omega⟩
  by_cases hl : B.length ≤ 9000 ∧ Es.length ≤ 20
  · obtain ⟨hB, hE⟩ := hl
    have hfree : V.freeL [x, y] = true := by simp [freeL_cons, freeL_nil, hx.isL.free, hy.isL.free]
    obtain ⟨cA, cB⟩ := @ofAB N n x y B Es hx hy hB hE
    have cP := @of_pro N n x y B Es hx hy hB hE
    have cR := @of_rest N n hN (by omega) x y B Es hx hy hB hE
    refine am3_wp rfl hfree ?_
    rw [body3]
    have c3 : wp ⟨pureOf am, callA am N n, N, 0⟩ (.seq oP oR) (fr 112 [(0, x), (1, y)]) (deads 5) (retQ am3.res fun x h' => V.shut (fun o => h'[o]?) sealDepth x = some (.bool true)) := by
      rw [wp_seq]
      refine wp_mono (sx_wp cP) ?_
      intro e t h' H
      obtain ⟨rfl, ob, vb, oe, ve, rfl, h1, h2, h3, h4⟩ := H
      exact sx_wp (cR h1 h2 h3 h4)
    exact wp_cutT _ _ cA (wp_cutT _ _ cB c3)
  · exact devOf_long (by omega) (by omega) hx hy hl h
def bSh : Sh := .sl false 1 (.int .u8)
def eSh : Sh := .sl false 1 (.int .i64)
theorem ro_inP {k : IntKind} {u : V} (h : InP false (.sl false 1 (.int k)) u) : ∃ m, Ro k m u := by
  obtain ⟨b, m, hb, hm⟩ := ro_in (u := [u]) h
  obtain rfl : u = b := by simpa using hb
  exact ⟨m, hm⟩
theorem runsDeviceOf {u1 u2 : V} (h1 : InP false bSh u1) (h2 : InP false eSh u2) : ∃ N n, callA am N n 3 [u1, u2] [] = some (.bool true, []) := by
  obtain ⟨B, hx⟩ := ro_inP h1
  obtain ⟨Es, hy⟩ := ro_inP h2
  exact ⟨400000, 30, devOf_spec (by omega) (by omega) hx hy []⟩
end Go.Am.T

