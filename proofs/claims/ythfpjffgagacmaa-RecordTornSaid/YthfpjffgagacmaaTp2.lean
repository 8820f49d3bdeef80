import Derived.Test.YthfpjffgagacmaaTp1
import Derived.Test.YthfpjffgagacmaaAw5
import Derived.Test.YthfpjffgagacmaaAb2
set_option linter.unusedVariables false
set_option linter.unusedSimpArgs false
set_option maxRecDepth 10000
namespace Go.Am.T
attribute [local congr] selV_congr impB_congr

def num4 (S : List Int) (k : Nat) : Int := ((S.getD k 0 * 256 + S.getD (k + 1) 0) * 256 + S.getD (k + 2) 0) * 256 + S.getD (k + 3) 0

def orI (x y : Int) : Int := IntKind.i64.wrap (((BitVec.ofInt IntKind.i64.bits x) ||| (BitVec.ofInt IntKind.i64.bits y)).toNat : Int)

theorem orI_add {a b : Int} {k : Nat} (ha : 0 ≤ a) (hb : 0 ≤ b) (h1 : b < 2 ^ k) (h2 : a * 2 ^ k + b < 9223372036854775808) : orI (a * 2 ^ k) b = a * 2 ^ k + b := by
  obtain ⟨m, rfl⟩ := Int.eq_ofNat_of_zero_le ha
  obtain ⟨n, rfl⟩ := Int.eq_ofNat_of_zero_le hb
  have e : ((m : Int) * 2 ^ k) = ((m * 2 ^ k : Nat) : Int) := by simp
  have h1' : n < 2 ^ k := by
    have : ((n : Nat) : Int) < ((2 ^ k : Nat) : Int) := by simpa using h1
    omega
  have h2' : m * 2 ^ k + n < 2 ^ 63 := by
    rw [e] at h2
    omega
  unfold orI
  rw [e]
  exact or_add h1' h2'

theorem or4 {a b c d : Int} (ha : 0 ≤ a ∧ a ≤ 255) (hb : 0 ≤ b ∧ b ≤ 255) (hc : 0 ≤ c ∧ c ≤ 255) (hd : 0 ≤ d ∧ d ≤ 255) :
    orI (orI (orI (IntKind.i64.wrap (a * 2 ^ 24)) (IntKind.i64.wrap (b * 2 ^ 16))) (IntKind.i64.wrap (c * 2 ^ 8))) d = ((a * 256 + b) * 256 + c) * 256 + d := by
  rw [wrap64 (n := a * 2 ^ 24) (by omega) (by omega), wrap64 (n := b * 2 ^ 16) (by omega) (by omega), wrap64 (n := c * 2 ^ 8) (by omega) (by omega)]
  rw [orI_add (by omega) (by omega) (by omega) (by omega), show a * 2 ^ 24 + b * 2 ^ 16 = (a * 256 + b) * 2 ^ 16 by omega, orI_add (by omega) (by omega) (by omega) (by omega),
    show (a * 256 + b) * 2 ^ 16 + c * 2 ^ 8 = ((a * 256 + b) * 256 + c) * 2 ^ 8 by omega, orI_add (by omega) (by omega) (by omega) (by omega)]
  omega

theorem bytes_at {S : List Int} (h : Bytes S) (k : Nat) : 0 ≤ S.getD k 0 ∧ S.getD k 0 ≤ 255 := by
  rw [List.getD_eq_getElem?_getD]
  rcases Nat.lt_or_ge k S.length with hk | hk
  · rw [List.getElem?_eq_getElem hk]
    exact h _ (List.getElem_mem hk)
  · rw [List.getElem?_eq_none hk]
    simp

set_option maxHeartbeats 1000000 in
theorem take_spec {N n : Nat} (hn : 1 ≤ n) (a s vs k : Nat) (S : List Int) (h : Heap) (ha : h[a]? = some ⟨1, .var [.int .i64 (k : Int)]⟩) (hs : h[s]? = some ⟨vs, .var (S.map (V.int .u8))⟩)
    (hS : S.length = 64) (hb : Bytes S) (hk : k + 4 ≤ 64) (has : a ≠ s) :
    callA am N n 68 [.ptr a 1 0, .ptr s vs 0] h = some (.int .i64 (num4 S k), h.set a ⟨1, .var [.int .i64 ((k + 4 : Nat) : Int)]⟩) := by
  obtain ⟨n, rfl⟩ : ∃ m, n = m + 1 := ⟨n - 1, by omega⟩
  refine call_keep_eq at68 rfl rfl (by decide) (sx_wp ?_)
  have hal : a < h.length := by
    rcases Nat.lt_or_ge a h.length with h1 | h1
    · exact h1
    · rw [List.getElem?_eq_none h1] at ha; cases ha
  have g1 : ∀ x, (h.set a x)[a]? = some x := fun x => by simp [hal]
  have g2 : ∀ x, (h.set a x)[s]? = some ⟨vs, .var (S.map (V.int .u8))⟩ := fun x => by rw [List.getElem?_set_ne has]; exact hs
  have w4 : IntKind.i64.wrap ((k : Int) + 4) = ((k + 4 : Nat) : Int) := (wrap64 (by omega) (by omega)).trans (by omega)
  have w0 : IntKind.i64.wrap (((k + 4 : Nat) : Int) - 4) = ((k : Nat) : Int) := (wrap64 (by omega) (by omega)).trans (by omega)
  have w1 : IntKind.i64.wrap (((k + 4 : Nat) : Int) - 3) = ((k + 1 : Nat) : Int) := (wrap64 (by omega) (by omega)).trans (by omega)
  have w2 : IntKind.i64.wrap (((k + 4 : Nat) : Int) - 2) = ((k + 2 : Nat) : Int) := (wrap64 (by omega) (by omega)).trans (by omega)
  have w3 : IntKind.i64.wrap (((k + 4 : Nat) : Int) - 1) = ((k + 3 : Nat) : Int) := (wrap64 (by omega) (by omega)).trans (by omega)
  have i0 : (k : Int) < 64 := by omega
  have i1 : ((k + 1 : Nat) : Int) < 64 := by omega
  have i2 : ((k + 2 : Nat) : Int) < 64 := by omega
  have i3 : ((k + 3 : Nat) : Int) < 64 := by omega
  have l0 : k + 1 ≤ 64 := by omega
  have l1 : k + 1 + 1 ≤ 64 := by omega
  have l2 : k + 2 + 1 ≤ 64 := by omega
  have l3 : k + 3 + 1 ≤ 64 := by omega
  have e0 := ints_at .u8 (l := S) (i := k) (by omega)
  have e1 := ints_at .u8 (l := S) (i := k + 1) (by omega)
  have e2 := ints_at .u8 (l := S) (i := k + 2) (by omega)
  have e3 := ints_at .u8 (l := S) (i := k + 3) (by omega)
  have b0 := bytes_at hb k
  have b1 := bytes_at hb (k + 1)
  have b2 := bytes_at hb (k + 2)
  have b3 := bytes_at hb (k + 3)
  have m1 : min 24 IntKind.i64.bits = 24 := rfl
  have m2 : min 16 IntKind.i64.bits = 16 := rfl
  have m3 : min 8 IntKind.i64.bits = 8 := rfl
  have o4 := or4 b0 b1 b2 b3
  unfold orI at o4
  have c0 : IntKind.i64.wrap (S.getD k 0) = S.getD k 0 := wrap64 (by omega) (by omega)
  have c1 : IntKind.i64.wrap (S.getD (k + 1) 0) = S.getD (k + 1) 0 := wrap64 (by omega) (by omega)
  have c2 : IntKind.i64.wrap (S.getD (k + 2) 0) = S.getD (k + 2) 0 := wrap64 (by omega) (by omega)
  have c3 : IntKind.i64.wrap (S.getD (k + 3) 0) = S.getD (k + 3) 0 := wrap64 (by omega) (by omega)
  simp +contextual -implicitDefEqProofs (maxSteps := 10000000) only [sx_seq, sxL_succ, lpQ_norm, lpQ_exit, lpQ_ret, loopQ_norm, loopQ_exit, loopQ_ret, sqQ_norm, sqQ_ret, sqQ_exit, sx_block, blkQ_norm, blkQ_exit, blkQ_ret, sx_cond, cdP_true, cdP_false, cdP_bool, sx_region, sx_draw, plainD, List.all_cons, List.all_nil, List.isEmpty_nil, List.isEmpty_cons, sxo_nil, sxo_cons, sxo_guard, gdS_bool, gdS_eff, gdS_tup, gdS_sel, gdS_seleff, sxK_def, wcall_some, effP_ret, effP_set, effP_none, effP_ite, wop_call, wop_cv, cvP_func, sx_ret, sx_exit, sx_skip, sx_clr, stays, ↓selV_wt, ↓selV_wf, ↓impB_wt, ↓impB_wf, ↓selV_nor, ↓impB_nor, ↓selV_nt, ↓selV_nf, ↓impB_nt, ↓impB_nf, wantB_true, wantB_false, ↓selV_true, ↓selV_false, ↓selV_and, ↓impB_true, ↓impB_false, ↓impB_and, impB_triv, valOf_some, retH_some, ↓prim_pick, pickO_true, pickO_false, pickO_and, pickO_or, pickO_andr, pickO_orr, pickO_orrn, pickO_orn, pickO_bb, pickAnd_bool, pickOr_bool, ↓selV_nn, ↓impB_nn, Bool.and_assoc, Bool.or_assoc, doOp, ev_fr, ev_cst, put_none, put_fr, get, ins, del, dels, Nat.reduceLT, Nat.reduceEqDiff, ↓reduceIte, reduceCtorEq, ne_eq, not_false_eq_true, implies_true, framed_pureF, framed_fb, framed_N, framed_pure, wop_prim, prim, mkA, V.cells, List.getElem?_cons_zero, List.getElem?_cons_succ, List.set_cons_zero, List.set_cons_succ, Nat.zero_add, Nat.add_zero, Nat.reduceAdd, Nat.reduceSub, Nat.reduceMul, Nat.reduceLeDiff, Nat.not_lt_zero, List.map_cons, List.map_nil, List.cons_append, List.nil_append, loadA, cellsAt, nAg, packA, opt_bind_some, opt_map_some, opt_bind_none, opt_map_none, List.drop, List.take, List.head?, List.length_cons, List.length_nil, binA, unA, eqCells, eqCell, negB, fillA, sr_nil, sr_cons, sr_succ, sr_all, sr_len, storeA, Ob.with, indexedI, V.oneCell, intOf?, retQ_ret, retQ_norm, resA, resA1, fr_getD, packR, sealDepth, shut_bool, shut_int, Option.some.injEq, V.bool.injEq, V.int.injEq, Bool.not_true, Bool.not_false, true_and, and_true, and_self, Bool.and_true, Bool.and_false, Bool.true_and, Bool.false_and, Bool.or_true, Bool.or_false, Bool.true_or, Bool.false_or, Bool.false_eq_true, Int.reduceLT, Int.reduceLE, Int.reduceToNat, Int.reduceNeg, shut_plain, freeL_cons, freeL_nil, free_int, free_bool, free_agg, free_str, free_nils, free_tup, free_sl, true_implies, false_implies, Nat.sub_zero, Int.natCast_nonneg, Int.toNat_natCast, Nat.le_refl, not_true_eq_false, Int.reduceAdd, Int.reduceSub, Int.reduceMul, wrap64, false_and, and_false, cond_true, cond_false, Bool.cond_true_left, Bool.cond_false_right, Int.reduceBNe, Int.reduceBEq, decide_true, decide_false, Int.cast_ofNat_Int, Nat.mul_one, eq_self, Bool.true_eq_false, Bool.not_eq_true, Bool.not_eq_false, deads, List.replicate, argsF, am68, List.append_nil, ha, g1, g2, w0, w1, w2, w3, w4, i0, i1, i2, i3, List.length_map, hS, l0, l1, l2, l3, e0, e1, e2, e3, m1, m2, m3, Int.reduceToNat, c0, c1, c2, c3, o4]
  simp only [num4]

def u8ok : List V → Bool
  | [] => true
  | .int .u8 n :: l => decide (0 ≤ n) && (decide (n ≤ 255) && u8ok l)
  | _ => false

def intsOf : List V → List Int
  | [] => []
  | .int _ n :: l => n :: intsOf l
  | _ :: l => 0 :: intsOf l

theorem u8ok_eq : ∀ {cs : List V}, u8ok cs = true → cs = (intsOf cs).map (V.int .u8) ∧ Bytes (intsOf cs)
  | [], _ => ⟨rfl, fun x hx => by cases hx⟩
  | .int .u8 n :: l, h => by
    simp only [u8ok, Bool.and_eq_true, decide_eq_true_eq] at h
    obtain ⟨h1, h2⟩ := u8ok_eq h.2.2
    refine ⟨by simp only [intsOf, List.map_cons, ← h1], fun x hx => ?_⟩
    rcases List.mem_cons.1 hx with rfl | hx
    · exact ⟨h.1, h.2.1⟩
    · exact h2 x hx

theorem intsOf_map (k : IntKind) : ∀ (S : List Int), intsOf (S.map (V.int k)) = S
  | [] => rfl
  | x :: S => by simp only [List.map_cons, intsOf, intsOf_map k S]

theorem u8ok_map : ∀ {S : List Int}, Bytes S → u8ok (S.map (V.int .u8)) = true
  | [], _ => rfl
  | x :: S, h => by
    have h1 := h x (by simp)
    simp only [List.map_cons, u8ok, h1.1, h1.2, decide_true, Bool.true_and, u8ok_map (S := S) (fun y hy => h y (by simp [hy]))]

/-- What a taker does, off the memory. -/
def takeF (h : Heap) (a s vs : Nat) : Option (V × Heap) :=
  match h[a]? with
  | some ⟨va, .var [.int .i64 kk]⟩ => match h[s]? with
    | some ⟨vs', .var cs⟩ =>
      if va = 1 then if vs' = vs then if u8ok cs = true then if cs.length = 64 then if 0 ≤ kk then if kk ≤ 60 then if a = s then none else
        some (.int .i64 (num4 (intsOf cs) kk.toNat), h.set a ⟨1, .var [.int .i64 (kk + 4)]⟩) else none else none else none else none else none else none
    | _ => none
  | _ => none

theorem takeF_some {h : Heap} {a s vs : Nat} (hp : (takeF h a s vs).isSome = true) : ∃ (k : Nat) (S : List Int), h[a]? = some ⟨1, .var [.int .i64 (k : Int)]⟩ ∧ h[s]? = some ⟨vs, .var (S.map (V.int .u8))⟩ ∧ S.length = 64 ∧ Bytes S ∧ k + 4 ≤ 64 ∧ a ≠ s ∧
    takeF h a s vs = some (.int .i64 (num4 S k), h.set a ⟨1, .var [.int .i64 ((k + 4 : Nat) : Int)]⟩) := by
  unfold takeF at hp ⊢
  split at hp
  case h_2 => cases hp
  rename_i va kk hb
  split at hp
  case h_2 => cases hp
  rename_i vs' cs hs
  split at hp
  case isFalse => cases hp
  rename_i h1
  split at hp
  case isFalse => cases hp
  rename_i h2
  split at hp
  case isFalse => cases hp
  rename_i h3
  split at hp
  case isFalse => cases hp
  rename_i h4
  split at hp
  case isFalse => cases hp
  rename_i h5
  split at hp
  case isFalse => cases hp
  rename_i h6
  split at hp
  case isTrue => cases hp
  rename_i h7
  subst h1 h2
  obtain ⟨k, rfl⟩ := Int.eq_ofNat_of_zero_le h5
  obtain ⟨e1, e2⟩ := u8ok_eq h3
  refine ⟨k, intsOf cs, hb, by rw [← e1]; exact hs, ?_, e2, by omega, h7, ?_⟩
  · have := congrArg List.length e1
    rw [List.length_map] at this
    omega
  · simp only [h3, h4, h5, h6, h7, ↓reduceIte, Int.toNat_natCast]
    rfl

theorem take_F {N n : Nat} (hn : 1 ≤ n) (a s vs : Nat) (h : Heap) (hp : (takeF h a s vs).isSome = true) : callA am N n 68 [.ptr a 1 0, .ptr s vs 0] h = takeF h a s vs := by
  obtain ⟨k, S, h1, h2, h3, h4, h5, h6, h7⟩ := takeF_some hp
  rw [h7]
  exact take_spec hn a s vs k S h h1 h2 h3 h4 h5 h6

theorem take_framed {N n fb : Nat} (hn : 1 ≤ n) (a s vs : Nat) (h : Heap) (hp : (takeF h a s vs).isSome = true) :
    ({ pureF := pureOf am, call := callA am N n, N := N, fb := fb } : Env).framed.call 68 [.ptr a 1 0, .ptr s vs 0] h = takeF h a s vs := by
  obtain ⟨k, S, h1, h2, h3, h4, h5, h6, h7⟩ := takeF_some hp
  rw [h7]
  have hal : a < h.length := (List.getElem?_eq_some_iff.1 h1).1
  refine frame_set (R := [a, s]) pm68 rfl ?_ (by simp) hal rfl rfl ?_
  · exact take_spec hn a s vs k S _ (by rw [keepOnly_in (by simp)]; exact h1) (by rw [keepOnly_in (by simp)]; exact h2) h3 h4 h5 h6
  · intro o ho y hy i hi
    simp only [List.mem_cons, List.not_mem_nil, or_false] at ho
    rcases ho with rfl | rfl
    · rw [h1] at hy; cases hy; simp [Bd.objs, V.objsL, V.objs] at hi
    · rw [h2] at hy; cases hy; simp [Bd.objs, objsL_ints] at hi
end Go.Am.T
