import Derived.Test.YtifbkofianklaaaTy1
set_option linter.unusedVariables false
set_option linter.unusedSimpArgs false
set_option maxRecDepth 10000
namespace Go.Am.T
attribute [local congr] selV_congr impB_congr

/-! ### Sessions -/

/-- A session: who, with whom, of which view; what waits (its bytes, as bodies); the first one's number, the last one told, up to where it got. -/
structure Ses where
  me : Int
  other : Int
  view : Int
  first : Int
  told : Int
  got : Int
  owes : Bool

def Ses.cs (s : Ses) (W : V) : List V := [.bool true, .int .i64 s.me, .int .i64 s.other, .int .i64 s.view, W, .int .i64 s.first, .int .i64 s.told, .int .i64 s.got, .bool s.owes]

theorem objsL_app : ∀ (a b : List V), V.objsL (a ++ b) = V.objsL a ++ V.objsL b
  | [], _ => rfl
  | x :: a, b => by
    show V.objs x ++ V.objsL (a ++ b) = _
    rw [objsL_app a b, ← List.append_assoc]; rfl

theorem objsL_take : ∀ {L : List V} {k : Nat}, V.objsL L = [] → V.objsL (L.take k) = []
  | [], k, h => by simp [V.objsL]
  | x :: L, 0, h => rfl
  | x :: L, k + 1, h => by
    have h' : V.objs x ++ V.objsL L = [] := h
    rw [List.append_eq_nil_iff] at h'
    show V.objs x ++ V.objsL (L.take k) = []
    rw [h'.1, objsL_take h'.2]; rfl

/-- A row of bodies in objects: L, in the objects R. -/
def WRow (H : Heap) (W : V) (L : List V) (R : List Nat) : Prop :=
  (L = [] ∧ W = .nils ∧ R = []) ∨
  ∃ o ver x, R = [o] ∧ H[o]? = some ⟨ver, .arr (x ++ L)⟩ ∧ ((L = [] ∧ W = .vend o ver 1) ∨ (L ≠ [] ∧ W = .view o ver x.length L.length 1 none)) ∧ V.objsL x = []

theorem WRow.keep {H H' : Heap} {W : V} {L : List V} {R : List Nat} (h : WRow H W L R) (hk : ∀ o ∈ R, H'[o]? = H[o]?) : WRow H' W L R := by
  rcases h with h | ⟨o, ver, x, rfl, ho, h⟩
  · exact .inl h
  · exact .inr ⟨o, ver, x, rfl, by rw [hk o (by simp)]; exact ho, h⟩

theorem WRow.lt {H : Heap} {W : V} {L : List V} {R : List Nat} (h : WRow H W L R) : ∀ o ∈ R, o < H.length := by
  rcases h with ⟨-, -, rfl⟩ | ⟨o, ver, x, rfl, ho, h⟩
  · intro o ho; cases ho
  · intro o' h'
    obtain rfl : o' = o := by simpa using h'
    exact lt_of_get ho

theorem WRow.len {H : Heap} {W : V} {L : List V} {R : List Nat} (h : WRow H W L R) : lenA W = some L.length := by
  rcases h with ⟨rfl, rfl, -⟩ | ⟨o, ver, x, rfl, ho, ⟨rfl, rfl⟩ | ⟨-, rfl⟩, hx⟩ <;> rfl

theorem WRow.shape {H : Heap} {W : V} {L : List V} {R : List Nat} (h : WRow H W L R) : W.cells = [W] ∧ W.oneCell = true ∧ (∀ s, W ≠ .str s) ∧ (∀ s, W ≠ .agg s) ∧ (∀ s, W ≠ .tup s) ∧ W ≠ .junk := by
  rcases h with ⟨rfl, rfl, -⟩ | ⟨o, ver, x, rfl, ho, ⟨rfl, rfl⟩ | ⟨-, rfl⟩, hx⟩ <;> exact ⟨rfl, rfl, fun _ => V.noConfusion, fun _ => V.noConfusion, fun _ => V.noConfusion, V.noConfusion⟩

theorem WRow.objs {H : Heap} {W : V} {L : List V} {R : List Nat} (h : WRow H W L R) : W.objs = R := by
  rcases h with ⟨rfl, rfl, rfl⟩ | ⟨o, ver, x, rfl, ho, ⟨rfl, rfl⟩ | ⟨-, rfl⟩, hx⟩ <;> rfl

/-- One body more. -/
theorem WRow.append {H : Heap} {W : V} {L : List V} {R : List Nat} {o0 : Nat} {x0 : Ob} {b : V} (h : WRow H W L R) (h0 : H[o0]? = some x0) (hb : b.cells = [b]) (h1 : b.oneCell = true) (hL : L.length ≤ 1000) :
    ∃ o1 y W', appendA (fun o => H[o]?) o0 1 24 W (.sl [b] 1 (some 1)) = some (.set o1 y W') ∧ WRow (H.set o1 y) W' (L ++ [b]) [o1] ∧ (o1 = o0 ∨ o1 ∈ R) ∧ o1 < H.length := by
  have hl1 : lenA (.sl [b] 1 (some 1)) = some 1 := rfl
  have hf1 : firstA (fun o => H[o]?) 1 1 (.sl [b] 1 (some 1)) = some [b] := by rw [firstA_sl1, hb]
  have ha1 : ([b] : List V).all V.oneCell = true := by simp [h1]
  rcases h with ⟨rfl, rfl, rfl⟩ | ⟨o, ver, x, rfl, ho, ⟨rfl, rfl⟩ | ⟨hne, rfl⟩, hx⟩
  · refine ⟨o0, ⟨x0.ver + 1, .arr [b]⟩, .view o0 (x0.ver + 1) 0 1 1 none, ?_, .inr ⟨o0, x0.ver + 1, [], rfl, ?_, .inr ⟨by simp, rfl⟩, rfl⟩, .inl rfl, lt_of_get h0⟩
    · unfold appendA
      simp [hl1, hf1, ha1, mkA, h0, maxBytes]
    · rw [List.getElem?_set_self (lt_of_get h0)]; rfl
  · refine ⟨o, ⟨ver + 1, .arr [b]⟩, .view o (ver + 1) 0 1 1 none, ?_, .inr ⟨o, ver + 1, [], rfl, ?_, .inr ⟨by simp, rfl⟩, rfl⟩, .inr (by simp), lt_of_get ho⟩
    · unfold appendA
      simp [hl1, hf1, ha1, cellsAt, ho, maxBytes]
    · rw [List.getElem?_set_self (lt_of_get ho)]; rfl
  · refine ⟨o, ⟨ver + 1, .arr (L ++ [b])⟩, .view o (ver + 1) 0 (L.length + 1) 1 none, ?_, .inr ⟨o, ver + 1, [], rfl, ?_, .inr ⟨by simp, by simp⟩, rfl⟩, .inr (by simp), lt_of_get ho⟩
    · have : (L.length + 1) * 24 ≤ maxBytes := by unfold maxBytes; omega
      unfold appendA
      simp [hl1, hf1, ha1, cellsAt, ho, this]
    · rw [List.getElem?_set_self (lt_of_get ho)]; rfl

/-- All but the first k. -/
theorem WRow.drop {H : Heap} {W : V} {L : List V} {R : List Nat} (h : WRow H W L R) (hLo : V.objsL L = []) {k : Nat} (hk : k ≤ L.length) : ∃ W', sliceA (fun o => H[o]?) 1 W (some (.int .i64 k)) none none = some W' ∧ WRow H W' (L.drop k) R := by
  rcases h with ⟨rfl, rfl, rfl⟩ | ⟨o, ver, x, rfl, ho, ⟨rfl, rfl⟩ | ⟨hne, rfl⟩, hx⟩
  · have : k = 0 := by simpa using hk
    subst this
    exact ⟨.nils, rfl, .inl ⟨rfl, rfl, rfl⟩⟩
  · have : k = 0 := by simpa using hk
    subst this
    exact ⟨.vend o ver 1, rfl, .inr ⟨o, ver, x, rfl, ho, .inl ⟨rfl, rfl⟩, hx⟩⟩
  · have hb : boundsA L.length ((x ++ L).length - x.length) (some (.int .i64 (k : Nat))) none none = some (k, L.length, L.length) := by
      simp [boundsA, intOf?, hk]
    by_cases h0 : k = 0
    · subst h0
      refine ⟨.view o ver x.length L.length 1 none, ?_, .inr ⟨o, ver, x, rfl, ho, .inr ⟨hne, rfl⟩, hx⟩⟩
      simp only [sliceA, ↓reduceIte, cellsAt, ho, Nat.div_one, hb, Option.bind_some]
    · by_cases hlt : k < L.length
      · refine ⟨.view o ver (x.length + k) (L.length - k) 1 none, ?_, .inr ⟨o, ver, x ++ L.take k, rfl, by rw [List.append_assoc, List.take_append_drop]; exact ho, .inr ⟨?_, ?_⟩, ?_⟩⟩
        · simp only [sliceA, ↓reduceIte, cellsAt, ho, Nat.div_one, hb, Option.bind_some, h0, hlt, Nat.mul_one]
        · simp; omega
        · simp; omega
        · rw [objsL_app, hx, objsL_take hLo]; rfl
      · have hk' : k = L.length := by omega
        subst hk'
        refine ⟨.vend o ver 1, ?_, .inr ⟨o, ver, x ++ L, rfl, by simpa using ho, .inl ⟨by simp, rfl⟩, by rw [objsL_app, hx, hLo]; rfl⟩⟩
        simp only [sliceA, ↓reduceIte, cellsAt, ho, Nat.div_one, hb, Option.bind_some, h0, hlt]

/-- One of them. -/
theorem WRow.at_ {H : Heap} {W : V} {L : List V} {R : List Nat} (h : WRow H W L R) {i : Nat} {b : V} (hi : L[i]? = some b) :
    ∃ o ver off, iaddrSA 1 W (.int .i64 i) = some (.ret (.ptr o ver off)) ∧ loadA (fun o => H[o]?) 1 (.ptr o ver off) = some [b] ∧ R = [o] := by
  have hlt := (List.getElem?_eq_some_iff.1 hi).1
  rcases h with ⟨rfl, rfl, rfl⟩ | ⟨o, ver, x, rfl, ho, ⟨rfl, rfl⟩ | ⟨hne, rfl⟩, hx⟩
  · simp at hi
  · simp at hi
  · refine ⟨o, ver, x.length + i * 1, ?_, ?_, rfl⟩
    · simp [iaddrSA, indexedI, hlt]
    · have h1 : x.length + i * 1 + 1 ≤ (x ++ L).length := by simp; omega
      have h2 : List.take 1 (List.drop (x.length + i * 1) (x ++ L)) = [b] := by
        rw [Nat.mul_one, List.drop_append, List.drop_eq_nil_of_le (by omega), List.nil_append, show x.length + i - x.length = i by omega]
        rw [List.drop_eq_getElem_cons hlt]
        have := (List.getElem?_eq_some_iff.1 hi).2
        simp [this]
      simp only [loadA, cellsAt, ho, ↓reduceIte, h1, h2]

/-! ### Looking at a session -/

def Bods (L : List V) : Prop := ∀ b ∈ L, ∃ l, By l b ∧ l.length ≤ 256

theorem By.elem {l : List Int} {b : V} (h : By l b) : ElemOk' 1 b := by
  refine ⟨by rw [h.cells]; rfl, by rw [h.cells]; rfl, fun c hc => ?_⟩
  rw [h.cells] at hc
  obtain rfl : c = b := by simpa using hc
  exact ⟨h.free, h.one⟩

theorem Bods.objs : ∀ {L : List V}, Bods L → V.objsL L = []
  | [], _ => rfl
  | b :: L, h => by
    obtain ⟨l, hl, -⟩ := h b (by simp)
    show V.objs b ++ V.objsL L = []
    rw [hl.objs, Bods.objs (fun c hc => h c (by simp [hc]))]; rfl

/-- The row as a value of its own. -/
def sealW (W : V) (L : List V) : V := match W with | .nils => .nils | .vend .. => .sl [] 1 none | _ => .sl L 1 none

theorem flat_self {L : List V} (hL : ∀ b ∈ L, b.cells = [b]) : L.flatMap V.cells = L := by
  induction L with
  | nil => rfl
  | cons b L ih => rw [List.flatMap_cons, hL b (by simp), ih (fun c hc => hL c (by simp [hc]))]; rfl

theorem WRow.shut {H : Heap} {W : V} {L : List V} {R : List Nat} (h : WRow H W L R) (hB : Bods L) : V.shut (fun o => H[o]?) 63 W = some (sealW W L) ∧ (sealW W L).free = true ∧ lenA (sealW W L) = some L.length ∧ (∀ s, sealW W L ≠ .str s) ∧ (sealW W L).cells = [sealW W L] := by
  have hf : V.freeL L = true := by
    rw [freeL_of_mem]
    intro c hc
    obtain ⟨l, hl, -⟩ := hB c hc
    exact hl.free
  rcases h with ⟨rfl, rfl, -⟩ | ⟨o, ver, x, rfl, ho, ⟨rfl, rfl⟩ | ⟨hne, rfl⟩, hx⟩
  · exact ⟨rfl, rfl, rfl, fun _ => V.noConfusion, rfl⟩
  · refine ⟨?_, rfl, rfl, fun _ => V.noConfusion, rfl⟩
    have e : V.shut (fun o => H[o]?) 63 (.vend o ver 1) = match cellsAt (fun o => H[o]?) o ver with | some _ => some (.sl [] 1 none) | none => none := rfl
    rw [e]
    simp [cellsAt, ho, sealW]
  · refine ⟨?_, hf, rfl, fun _ => V.noConfusion, rfl⟩
    refine shut_view (by decide) (fun e he => ?_) rfl ?_
    · obtain ⟨l, hl, -⟩ := hB e he
      exact hl.elem
    · rw [flat_self (fun b hb => by obtain ⟨l, hl, -⟩ := hB b hb; exact hl.cells)]
      simp only [loadA, cellsAt, ho, ↓reduceIte]
      rw [if_pos (by simp), List.drop_left, List.take_of_length_le (by simp)]

/-- A session in the memory: itself, and its row. -/
structure SAt (H : Heap) (a : Nat) (s : Ses) (L : List V) (W : V) (R : List Nat) : Prop where
  ob : H[a]? = some ⟨1, .var (s.cs W)⟩
  row : WRow H W L R
  bods : Bods L
  apart : a ∉ R

theorem SAt.shut {H : Heap} {a : Nat} {s : Ses} {L : List V} {W : V} {R : List Nat} (h : SAt H a s L W R) (off : Nat) : V.shut (fun o => H[o]?) sealDepth (.ptr a 1 off) = some (.iptr (s.cs (sealW W L)) off) := by
  have e : V.shut (fun o => H[o]?) sealDepth (.ptr a 1 off) = match cellsAt (fun o => H[o]?) a 1 with
      | some all => (all.mapM (V.shut (fun o => H[o]?) 63)).map fun cs => .iptr cs off
      | none => none := rfl
  rw [e]
  simp only [cellsAt, h.ob, ↓reduceIte]
  have hp : ∀ v : V, v.free = true → V.shut (fun o => H[o]?) 63 v = some v := fun v hv => shut_plain (d := 62) hv
  simp only [Ses.cs, List.mapM_cons, List.mapM_nil, hp (.bool true) rfl, hp (.int .i64 _) rfl, hp (.bool _) rfl, (h.row.shut h.bods).1, Option.bind_eq_bind, Option.bind_some, Option.pure_def, Option.map_some]

theorem cs_free {s : Ses} {W : V} (h : W.free = true) : V.freeL (s.cs W) = true := by
  simp only [Ses.cs, freeL_cons, freeL_nil, free_int, free_bool, h, Bool.and_self]

theorem shut_i {get : Nat → Option Ob} {off : Nat} {s : Ses} {W : V} (hW : W.free = true) : V.shut get sealDepth (.iptr (s.cs W) off) = some (.iptr (s.cs W) off) :=
  shut_plain (d := 63) (cs_free hW)

theorem is_i {N n : Nat} (hn : 1 ≤ n) {s : Ses} {W : V} (hW : W.free = true) (h : Heap) : callA am N n 22 [.iptr (s.cs W) 0] h = some (.bool true, h) := by
  obtain ⟨n, rfl⟩ : ∃ m, n = m + 1 := ⟨n - 1, by omega⟩
  refine call_look at22 rfl rfl (by decide) (args' := [.iptr (s.cs W) 0]) (by rw [List.mapM_cons, shut_i hW]; rfl) (sx_wp ?_)
  unfold Ses.cs
  simp +contextual -implicitDefEqProofs (maxSteps := 10000000) only [sx_seq, sxL_succ, lpQ_norm, lpQ_exit, lpQ_ret, loopQ_norm, loopQ_exit, loopQ_ret, sqQ_norm, sqQ_ret, sqQ_exit, sx_block, blkQ_norm, blkQ_exit, blkQ_ret, sx_cond, cdP_true, cdP_false, cdP_bool, sx_region, sx_draw, plainD, List.all_cons, List.all_nil, List.isEmpty_nil, List.isEmpty_cons, sxo_nil, sxo_cons, sxo_guard, gdS_bool, gdS_eff, gdS_tup, gdS_sel, gdS_seleff, sxK_def, wcall_some, effP_ret, effP_set, effP_none, effP_ite, wop_call, wop_cv, cvP_func, sx_ret, sx_exit, sx_skip, sx_clr, stays, ↓selV_wt, ↓selV_wf, ↓impB_wt, ↓impB_wf, ↓selV_nor, ↓impB_nor, ↓selV_nt, ↓selV_nf, ↓impB_nt, ↓impB_nf, wantB_true, wantB_false, ↓selV_true, ↓selV_false, ↓selV_and, ↓impB_true, ↓impB_false, ↓impB_and, impB_triv, valOf_some, retH_some, ↓prim_pick, pickO_true, pickO_false, pickO_and, pickO_or, pickO_andr, pickO_orr, pickO_orrn, pickO_orn, pickO_bb, pickAnd_bool, pickOr_bool, ↓selV_nn, ↓impB_nn, Bool.and_assoc, Bool.or_assoc, doOp, ev_fr, ev_cst, put_none, put_fr, get, ins, del, dels, Nat.reduceLT, Nat.reduceEqDiff, ↓reduceIte, reduceCtorEq, ne_eq, not_false_eq_true, implies_true, framed_pureF, framed_fb, framed_N, framed_pure, wop_prim, prim, YLD, mkA, V.cells, List.getElem?_cons_zero, List.getElem?_cons_succ, List.set_cons_zero, List.set_cons_succ, Nat.zero_add, Nat.add_zero, Nat.reduceAdd, Nat.reduceSub, Nat.reduceMul, Nat.reduceLeDiff, Nat.not_lt_zero, List.map_cons, List.map_nil, List.cons_append, List.nil_append, loadA, cellsAt, nAg, packA, opt_bind_some, opt_map_some, opt_bind_none, opt_map_none, List.drop, List.take, List.head?, List.length_cons, List.length_nil, binA, unA, eqCells, eqCell, negB, fillA, sr_nil, sr_cons, sr_succ, sr_all, sr_len, storeA, Ob.with, indexedI, V.oneCell, intOf?, retQ_ret, retQ_norm, resA, resA1, fr_getD, packR, sealDepth, shut_bool, shut_int, Option.some.injEq, V.bool.injEq, V.int.injEq, Bool.not_true, Bool.not_false, true_and, and_true, and_self, Bool.and_true, Bool.and_false, Bool.true_and, Bool.false_and, Bool.or_true, Bool.or_false, Bool.true_or, Bool.false_or, Bool.false_eq_true, Int.reduceLT, Int.reduceLE, Int.reduceToNat, Int.reduceNeg, shut_plain, freeL_cons, freeL_nil, free_int, free_bool, free_agg, free_str, free_nils, free_tup, free_sl, true_implies, false_implies, Nat.sub_zero, Int.natCast_nonneg, Int.toNat_natCast, Nat.le_refl, not_true_eq_false, Int.reduceAdd, Int.reduceSub, Int.reduceMul, wrap64, false_and, and_false, cond_true, cond_false, Bool.cond_true_left, Bool.cond_false_right, Int.reduceBNe, Int.reduceBEq, decide_true, decide_false, Int.cast_ofNat_Int, Nat.mul_one, eq_self, Bool.true_eq_false, Bool.not_eq_true, Bool.not_eq_false, deads, List.replicate, argsF, am22, isNil, plain_bool]

theorem is_spec {N n : Nat} (hn : 1 ≤ n) {a : Nat} {s : Ses} {W : V} {L : List V} {R : List Nat} {h : Heap} (ha : SAt h a s L W R) : callA am N n 22 [.ptr a 1 0] h = some (.bool true, h) := by
  obtain ⟨n, rfl⟩ : ∃ m, n = m + 1 := ⟨n - 1, by omega⟩
  refine call_look at22 rfl rfl (by decide) (args' := [.iptr (s.cs (sealW W L)) 0]) (by rw [List.mapM_cons, ha.shut]; rfl) (sx_wp ?_)
  unfold Ses.cs
  simp +contextual -implicitDefEqProofs (maxSteps := 10000000) only [sx_seq, sxL_succ, lpQ_norm, lpQ_exit, lpQ_ret, loopQ_norm, loopQ_exit, loopQ_ret, sqQ_norm, sqQ_ret, sqQ_exit, sx_block, blkQ_norm, blkQ_exit, blkQ_ret, sx_cond, cdP_true, cdP_false, cdP_bool, sx_region, sx_draw, plainD, List.all_cons, List.all_nil, List.isEmpty_nil, List.isEmpty_cons, sxo_nil, sxo_cons, sxo_guard, gdS_bool, gdS_eff, gdS_tup, gdS_sel, gdS_seleff, sxK_def, wcall_some, effP_ret, effP_set, effP_none, effP_ite, wop_call, wop_cv, cvP_func, sx_ret, sx_exit, sx_skip, sx_clr, stays, ↓selV_wt, ↓selV_wf, ↓impB_wt, ↓impB_wf, ↓selV_nor, ↓impB_nor, ↓selV_nt, ↓selV_nf, ↓impB_nt, ↓impB_nf, wantB_true, wantB_false, ↓selV_true, ↓selV_false, ↓selV_and, ↓impB_true, ↓impB_false, ↓impB_and, impB_triv, valOf_some, retH_some, ↓prim_pick, pickO_true, pickO_false, pickO_and, pickO_or, pickO_andr, pickO_orr, pickO_orrn, pickO_orn, pickO_bb, pickAnd_bool, pickOr_bool, ↓selV_nn, ↓impB_nn, Bool.and_assoc, Bool.or_assoc, doOp, ev_fr, ev_cst, put_none, put_fr, get, ins, del, dels, Nat.reduceLT, Nat.reduceEqDiff, ↓reduceIte, reduceCtorEq, ne_eq, not_false_eq_true, implies_true, framed_pureF, framed_fb, framed_N, framed_pure, wop_prim, prim, YLD, mkA, V.cells, List.getElem?_cons_zero, List.getElem?_cons_succ, List.set_cons_zero, List.set_cons_succ, Nat.zero_add, Nat.add_zero, Nat.reduceAdd, Nat.reduceSub, Nat.reduceMul, Nat.reduceLeDiff, Nat.not_lt_zero, List.map_cons, List.map_nil, List.cons_append, List.nil_append, loadA, cellsAt, nAg, packA, opt_bind_some, opt_map_some, opt_bind_none, opt_map_none, List.drop, List.take, List.head?, List.length_cons, List.length_nil, binA, unA, eqCells, eqCell, negB, fillA, sr_nil, sr_cons, sr_succ, sr_all, sr_len, storeA, Ob.with, indexedI, V.oneCell, intOf?, retQ_ret, retQ_norm, resA, resA1, fr_getD, packR, sealDepth, shut_bool, shut_int, Option.some.injEq, V.bool.injEq, V.int.injEq, Bool.not_true, Bool.not_false, true_and, and_true, and_self, Bool.and_true, Bool.and_false, Bool.true_and, Bool.false_and, Bool.or_true, Bool.or_false, Bool.true_or, Bool.false_or, Bool.false_eq_true, Int.reduceLT, Int.reduceLE, Int.reduceToNat, Int.reduceNeg, shut_plain, freeL_cons, freeL_nil, free_int, free_bool, free_agg, free_str, free_nils, free_tup, free_sl, true_implies, false_implies, Nat.sub_zero, Int.natCast_nonneg, Int.toNat_natCast, Nat.le_refl, not_true_eq_false, Int.reduceAdd, Int.reduceSub, Int.reduceMul, wrap64, false_and, and_false, cond_true, cond_false, Bool.cond_true_left, Bool.cond_false_right, Int.reduceBNe, Int.reduceBEq, decide_true, decide_false, Int.cast_ofNat_Int, Nat.mul_one, eq_self, Bool.true_eq_false, Bool.not_eq_true, Bool.not_eq_false, deads, List.replicate, argsF, am22, isNil, plain_bool]

theorem owes_spec {N n : Nat} (hn : 2 ≤ n) {a : Nat} {s : Ses} {W : V} {L : List V} {R : List Nat} {h : Heap} (ha : SAt h a s L W R) : callA am N n 19 [.ptr a 1 0] h = some (.bool s.owes, h) := by
  obtain ⟨n, rfl⟩ : ∃ m, n = m + 1 := ⟨n - 1, by omega⟩
  have c22 := fun h => @is_i N n (by omega) s (sealW W L) (ha.row.shut ha.bods).2.1 h
  refine call_look at19 rfl rfl (by decide) (args' := [.iptr (s.cs (sealW W L)) 0]) (by rw [List.mapM_cons, ha.shut]; rfl) (sx_wp ?_)
  unfold Ses.cs at c22 ⊢
  simp +contextual -implicitDefEqProofs (maxSteps := 10000000) only [sx_seq, sxL_succ, lpQ_norm, lpQ_exit, lpQ_ret, loopQ_norm, loopQ_exit, loopQ_ret, sqQ_norm, sqQ_ret, sqQ_exit, sx_block, blkQ_norm, blkQ_exit, blkQ_ret, sx_cond, cdP_true, cdP_false, cdP_bool, sx_region, sx_draw, plainD, List.all_cons, List.all_nil, List.isEmpty_nil, List.isEmpty_cons, sxo_nil, sxo_cons, sxo_guard, gdS_bool, gdS_eff, gdS_tup, gdS_sel, gdS_seleff, sxK_def, wcall_some, effP_ret, effP_set, effP_none, effP_ite, wop_call, wop_cv, cvP_func, sx_ret, sx_exit, sx_skip, sx_clr, stays, ↓selV_wt, ↓selV_wf, ↓impB_wt, ↓impB_wf, ↓selV_nor, ↓impB_nor, ↓selV_nt, ↓selV_nf, ↓impB_nt, ↓impB_nf, wantB_true, wantB_false, ↓selV_true, ↓selV_false, ↓selV_and, ↓impB_true, ↓impB_false, ↓impB_and, impB_triv, valOf_some, retH_some, ↓prim_pick, pickO_true, pickO_false, pickO_and, pickO_or, pickO_andr, pickO_orr, pickO_orrn, pickO_orn, pickO_bb, pickAnd_bool, pickOr_bool, ↓selV_nn, ↓impB_nn, Bool.and_assoc, Bool.or_assoc, doOp, ev_fr, ev_cst, put_none, put_fr, get, ins, del, dels, Nat.reduceLT, Nat.reduceEqDiff, ↓reduceIte, reduceCtorEq, ne_eq, not_false_eq_true, implies_true, framed_pureF, framed_fb, framed_N, framed_pure, wop_prim, prim, YLD, mkA, V.cells, List.getElem?_cons_zero, List.getElem?_cons_succ, List.set_cons_zero, List.set_cons_succ, Nat.zero_add, Nat.add_zero, Nat.reduceAdd, Nat.reduceSub, Nat.reduceMul, Nat.reduceLeDiff, Nat.not_lt_zero, List.map_cons, List.map_nil, List.cons_append, List.nil_append, loadA, cellsAt, nAg, packA, opt_bind_some, opt_map_some, opt_bind_none, opt_map_none, List.drop, List.take, List.head?, List.length_cons, List.length_nil, binA, unA, eqCells, eqCell, negB, fillA, sr_nil, sr_cons, sr_succ, sr_all, sr_len, storeA, Ob.with, indexedI, V.oneCell, intOf?, retQ_ret, retQ_norm, resA, resA1, fr_getD, packR, sealDepth, shut_bool, shut_int, Option.some.injEq, V.bool.injEq, V.int.injEq, Bool.not_true, Bool.not_false, true_and, and_true, and_self, Bool.and_true, Bool.and_false, Bool.true_and, Bool.false_and, Bool.or_true, Bool.or_false, Bool.true_or, Bool.false_or, Bool.false_eq_true, Int.reduceLT, Int.reduceLE, Int.reduceToNat, Int.reduceNeg, shut_plain, freeL_cons, freeL_nil, free_int, free_bool, free_agg, free_str, free_nils, free_tup, free_sl, true_implies, false_implies, Nat.sub_zero, Int.natCast_nonneg, Int.toNat_natCast, Nat.le_refl, not_true_eq_false, Int.reduceAdd, Int.reduceSub, Int.reduceMul, wrap64, false_and, and_false, cond_true, cond_false, Bool.cond_true_left, Bool.cond_false_right, Int.reduceBNe, Int.reduceBEq, decide_true, decide_false, Int.cast_ofNat_Int, Nat.mul_one, eq_self, Bool.true_eq_false, Bool.not_eq_true, Bool.not_eq_false, deads, List.replicate, argsF, am19, c22, isNil, plain_bool]

theorem waits_spec {N n : Nat} (hn : 2 ≤ n) {a : Nat} {s : Ses} {W : V} {L : List V} {R : List Nat} {h : Heap} (ha : SAt h a s L W R) : callA am N n 15 [.ptr a 1 0] h = some (.int .i64 L.length, h) := by
  obtain ⟨n, rfl⟩ : ∃ m, n = m + 1 := ⟨n - 1, by omega⟩
  have c22 := fun h => @is_i N n (by omega) s (sealW W L) (ha.row.shut ha.bods).2.1 h
  obtain ⟨-, -, q1, q2, q3⟩ := ha.row.shut ha.bods
  refine call_look at15 rfl rfl (by decide) (args' := [.iptr (s.cs (sealW W L)) 0]) (by rw [List.mapM_cons, ha.shut]; rfl) (sx_wp ?_)
  unfold Ses.cs at c22 ⊢
  simp +contextual -implicitDefEqProofs (maxSteps := 10000000) only [sx_seq, sxL_succ, lpQ_norm, lpQ_exit, lpQ_ret, loopQ_norm, loopQ_exit, loopQ_ret, sqQ_norm, sqQ_ret, sqQ_exit, sx_block, blkQ_norm, blkQ_exit, blkQ_ret, sx_cond, cdP_true, cdP_false, cdP_bool, sx_region, sx_draw, plainD, List.all_cons, List.all_nil, List.isEmpty_nil, List.isEmpty_cons, sxo_nil, sxo_cons, sxo_guard, gdS_bool, gdS_eff, gdS_tup, gdS_sel, gdS_seleff, sxK_def, wcall_some, effP_ret, effP_set, effP_none, effP_ite, wop_call, wop_cv, cvP_func, sx_ret, sx_exit, sx_skip, sx_clr, stays, ↓selV_wt, ↓selV_wf, ↓impB_wt, ↓impB_wf, ↓selV_nor, ↓impB_nor, ↓selV_nt, ↓selV_nf, ↓impB_nt, ↓impB_nf, wantB_true, wantB_false, ↓selV_true, ↓selV_false, ↓selV_and, ↓impB_true, ↓impB_false, ↓impB_and, impB_triv, valOf_some, retH_some, ↓prim_pick, pickO_true, pickO_false, pickO_and, pickO_or, pickO_andr, pickO_orr, pickO_orrn, pickO_orn, pickO_bb, pickAnd_bool, pickOr_bool, ↓selV_nn, ↓impB_nn, Bool.and_assoc, Bool.or_assoc, doOp, ev_fr, ev_cst, put_none, put_fr, get, ins, del, dels, Nat.reduceLT, Nat.reduceEqDiff, ↓reduceIte, reduceCtorEq, ne_eq, not_false_eq_true, implies_true, framed_pureF, framed_fb, framed_N, framed_pure, wop_prim, prim, YLD, mkA, V.cells, List.getElem?_cons_zero, List.getElem?_cons_succ, List.set_cons_zero, List.set_cons_succ, Nat.zero_add, Nat.add_zero, Nat.reduceAdd, Nat.reduceSub, Nat.reduceMul, Nat.reduceLeDiff, Nat.not_lt_zero, List.map_cons, List.map_nil, List.cons_append, List.nil_append, loadA, cellsAt, nAg, packA, opt_bind_some, opt_map_some, opt_bind_none, opt_map_none, List.drop, List.take, List.head?, List.length_cons, List.length_nil, binA, unA, eqCells, eqCell, negB, fillA, sr_nil, sr_cons, sr_succ, sr_all, sr_len, storeA, Ob.with, indexedI, V.oneCell, intOf?, retQ_ret, retQ_norm, resA, resA1, fr_getD, packR, sealDepth, shut_bool, shut_int, Option.some.injEq, V.bool.injEq, V.int.injEq, Bool.not_true, Bool.not_false, true_and, and_true, and_self, Bool.and_true, Bool.and_false, Bool.true_and, Bool.false_and, Bool.or_true, Bool.or_false, Bool.true_or, Bool.false_or, Bool.false_eq_true, Int.reduceLT, Int.reduceLE, Int.reduceToNat, Int.reduceNeg, shut_plain, freeL_cons, freeL_nil, free_int, free_bool, free_agg, free_str, free_nils, free_tup, free_sl, true_implies, false_implies, Nat.sub_zero, Int.natCast_nonneg, Int.toNat_natCast, Nat.le_refl, not_true_eq_false, Int.reduceAdd, Int.reduceSub, Int.reduceMul, wrap64, false_and, and_false, cond_true, cond_false, Bool.cond_true_left, Bool.cond_false_right, Int.reduceBNe, Int.reduceBEq, decide_true, decide_false, Int.cast_ofNat_Int, Nat.mul_one, eq_self, Bool.true_eq_false, Bool.not_eq_true, Bool.not_eq_false, deads, List.replicate, argsF, am15, c22, isNil, q1, plain_int]

theorem got_spec {N n : Nat} (hn : 2 ≤ n) {a : Nat} {s : Ses} {W : V} {L : List V} {R : List Nat} {h : Heap} (ha : SAt h a s L W R) : callA am N n 17 [.ptr a 1 0] h = some (.int .i64 s.got, h) := by
  obtain ⟨n, rfl⟩ : ∃ m, n = m + 1 := ⟨n - 1, by omega⟩
  have c22 := fun h => @is_i N n (by omega) s (sealW W L) (ha.row.shut ha.bods).2.1 h
  refine call_look at17 rfl rfl (by decide) (args' := [.iptr (s.cs (sealW W L)) 0]) (by rw [List.mapM_cons, ha.shut]; rfl) (sx_wp ?_)
  unfold Ses.cs at c22 ⊢
  simp +contextual -implicitDefEqProofs (maxSteps := 10000000) only [sx_seq, sxL_succ, lpQ_norm, lpQ_exit, lpQ_ret, loopQ_norm, loopQ_exit, loopQ_ret, sqQ_norm, sqQ_ret, sqQ_exit, sx_block, blkQ_norm, blkQ_exit, blkQ_ret, sx_cond, cdP_true, cdP_false, cdP_bool, sx_region, sx_draw, plainD, List.all_cons, List.all_nil, List.isEmpty_nil, List.isEmpty_cons, sxo_nil, sxo_cons, sxo_guard, gdS_bool, gdS_eff, gdS_tup, gdS_sel, gdS_seleff, sxK_def, wcall_some, effP_ret, effP_set, effP_none, effP_ite, wop_call, wop_cv, cvP_func, sx_ret, sx_exit, sx_skip, sx_clr, stays, ↓selV_wt, ↓selV_wf, ↓impB_wt, ↓impB_wf, ↓selV_nor, ↓impB_nor, ↓selV_nt, ↓selV_nf, ↓impB_nt, ↓impB_nf, wantB_true, wantB_false, ↓selV_true, ↓selV_false, ↓selV_and, ↓impB_true, ↓impB_false, ↓impB_and, impB_triv, valOf_some, retH_some, ↓prim_pick, pickO_true, pickO_false, pickO_and, pickO_or, pickO_andr, pickO_orr, pickO_orrn, pickO_orn, pickO_bb, pickAnd_bool, pickOr_bool, ↓selV_nn, ↓impB_nn, Bool.and_assoc, Bool.or_assoc, doOp, ev_fr, ev_cst, put_none, put_fr, get, ins, del, dels, Nat.reduceLT, Nat.reduceEqDiff, ↓reduceIte, reduceCtorEq, ne_eq, not_false_eq_true, implies_true, framed_pureF, framed_fb, framed_N, framed_pure, wop_prim, prim, YLD, mkA, V.cells, List.getElem?_cons_zero, List.getElem?_cons_succ, List.set_cons_zero, List.set_cons_succ, Nat.zero_add, Nat.add_zero, Nat.reduceAdd, Nat.reduceSub, Nat.reduceMul, Nat.reduceLeDiff, Nat.not_lt_zero, List.map_cons, List.map_nil, List.cons_append, List.nil_append, loadA, cellsAt, nAg, packA, opt_bind_some, opt_map_some, opt_bind_none, opt_map_none, List.drop, List.take, List.head?, List.length_cons, List.length_nil, binA, unA, eqCells, eqCell, negB, fillA, sr_nil, sr_cons, sr_succ, sr_all, sr_len, storeA, Ob.with, indexedI, V.oneCell, intOf?, retQ_ret, retQ_norm, resA, resA1, fr_getD, packR, sealDepth, shut_bool, shut_int, Option.some.injEq, V.bool.injEq, V.int.injEq, Bool.not_true, Bool.not_false, true_and, and_true, and_self, Bool.and_true, Bool.and_false, Bool.true_and, Bool.false_and, Bool.or_true, Bool.or_false, Bool.true_or, Bool.false_or, Bool.false_eq_true, Int.reduceLT, Int.reduceLE, Int.reduceToNat, Int.reduceNeg, shut_plain, freeL_cons, freeL_nil, free_int, free_bool, free_agg, free_str, free_nils, free_tup, free_sl, true_implies, false_implies, Nat.sub_zero, Int.natCast_nonneg, Int.toNat_natCast, Nat.le_refl, not_true_eq_false, Int.reduceAdd, Int.reduceSub, Int.reduceMul, wrap64, false_and, and_false, cond_true, cond_false, Bool.cond_true_left, Bool.cond_false_right, Int.reduceBNe, Int.reduceBEq, decide_true, decide_false, Int.cast_ofNat_Int, Nat.mul_one, eq_self, Bool.true_eq_false, Bool.not_eq_true, Bool.not_eq_false, deads, List.replicate, argsF, am17, c22, isNil, plain_int]

/-! ### A new one -/

def nodeB (n : Int) : Bool := decide (n ≥ 0) && decide (n < 8)

theorem node_spec {N n : Nat} (hn : 1 ≤ n) (x : Int) (h : Heap) : callA am N n 21 [.int .i64 x] h = some (.bool (nodeB x), h) := by
  obtain ⟨n, rfl⟩ : ∃ m, n = m + 1 := ⟨n - 1, by omega⟩
  refine call_pure at21 rfl rfl (by decide) rfl (sx_wp ?_)
  unfold nodeB
  simp +contextual -implicitDefEqProofs (maxSteps := 10000000) only [sx_seq, sxL_succ, lpQ_norm, lpQ_exit, lpQ_ret, loopQ_norm, loopQ_exit, loopQ_ret, sqQ_norm, sqQ_ret, sqQ_exit, sx_block, blkQ_norm, blkQ_exit, blkQ_ret, sx_cond, cdP_true, cdP_false, cdP_bool, sx_region, sx_draw, plainD, List.all_cons, List.all_nil, List.isEmpty_nil, List.isEmpty_cons, sxo_nil, sxo_cons, sxo_guard, gdS_bool, gdS_eff, gdS_tup, gdS_sel, gdS_seleff, sxK_def, wcall_some, effP_ret, effP_set, effP_none, effP_ite, wop_call, wop_cv, cvP_func, sx_ret, sx_exit, sx_skip, sx_clr, stays, ↓selV_wt, ↓selV_wf, ↓impB_wt, ↓impB_wf, ↓selV_nor, ↓impB_nor, ↓selV_nt, ↓selV_nf, ↓impB_nt, ↓impB_nf, wantB_true, wantB_false, ↓selV_true, ↓selV_false, ↓selV_and, ↓impB_true, ↓impB_false, ↓impB_and, impB_triv, valOf_some, retH_some, ↓prim_pick, pickO_true, pickO_false, pickO_and, pickO_or, pickO_andr, pickO_orr, pickO_orrn, pickO_orn, pickO_bb, pickAnd_bool, pickOr_bool, ↓selV_nn, ↓impB_nn, Bool.and_assoc, Bool.or_assoc, doOp, ev_fr, ev_cst, put_none, put_fr, get, ins, del, dels, Nat.reduceLT, Nat.reduceEqDiff, ↓reduceIte, reduceCtorEq, ne_eq, not_false_eq_true, implies_true, framed_pureF, framed_fb, framed_N, framed_pure, wop_prim, prim, YLD, mkA, V.cells, List.getElem?_cons_zero, List.getElem?_cons_succ, List.set_cons_zero, List.set_cons_succ, Nat.zero_add, Nat.add_zero, Nat.reduceAdd, Nat.reduceSub, Nat.reduceMul, Nat.reduceLeDiff, Nat.not_lt_zero, List.map_cons, List.map_nil, List.cons_append, List.nil_append, loadA, cellsAt, nAg, packA, opt_bind_some, opt_map_some, opt_bind_none, opt_map_none, List.drop, List.take, List.head?, List.length_cons, List.length_nil, binA, unA, eqCells, eqCell, negB, fillA, sr_nil, sr_cons, sr_succ, sr_all, sr_len, storeA, Ob.with, indexedI, V.oneCell, intOf?, retQ_ret, retQ_norm, resA, resA1, fr_getD, packR, sealDepth, shut_bool, shut_int, Option.some.injEq, V.bool.injEq, V.int.injEq, Bool.not_true, Bool.not_false, true_and, and_true, and_self, Bool.and_true, Bool.and_false, Bool.true_and, Bool.false_and, Bool.or_true, Bool.or_false, Bool.true_or, Bool.false_or, Bool.false_eq_true, Int.reduceLT, Int.reduceLE, Int.reduceToNat, Int.reduceNeg, shut_plain, freeL_cons, freeL_nil, free_int, free_bool, free_agg, free_str, free_nils, free_tup, free_sl, true_implies, false_implies, Nat.sub_zero, Int.natCast_nonneg, Int.toNat_natCast, Nat.le_refl, not_true_eq_false, Int.reduceAdd, Int.reduceSub, Int.reduceMul, wrap64, false_and, and_false, cond_true, cond_false, Bool.cond_true_left, Bool.cond_false_right, Int.reduceBNe, Int.reduceBEq, decide_true, decide_false, Int.cast_ofNat_Int, Nat.mul_one, eq_self, Bool.true_eq_false, Bool.not_eq_true, Bool.not_eq_false, deads, List.replicate, argsF, am21]

/-- May it be made? -/
def mayS (me other view : Int) : Bool := nodeB me && (nodeB other && (!(me == other) && (decide (0 ≤ view) && decide (view ≤ 4611686018427387904))))

def newS (me other view : Int) : Ses := ⟨me, other, view, 1, 0, 0, false⟩

theorem new_ok {N n : Nat} (hn : 2 ≤ n) {me other view : Int} (hm : mayS me other view = true) (h : Heap) : callA am N n 7 [.int .i64 me, .int .i64 other, .int .i64 view] h = some (.tup [.ptr h.length 1 0, .int .i64 0], h ++ [⟨1, .var ((newS me other view).cs .nils)⟩]) := by
  obtain ⟨n, rfl⟩ : ∃ m, n = m + 1 := ⟨n - 1, by omega⟩
  have c21 := @node_spec N n (by omega)
  simp only [mayS, Bool.and_eq_true, Bool.not_eq_true', decide_eq_true_eq] at hm
  obtain ⟨m1, m2, m3, m4, m5⟩ := hm
  have g1 : decide (view < 0) = false := decide_eq_false (by omega)
  have g2 : decide (view > 4611686018427387904) = false := decide_eq_false (by omega)
  refine call_keep_eq at7 rfl rfl (by decide) (sx_wp ?_)
  simp +contextual -implicitDefEqProofs (maxSteps := 10000000) only [sx_seq, sxL_succ, lpQ_norm, lpQ_exit, lpQ_ret, loopQ_norm, loopQ_exit, loopQ_ret, sqQ_norm, sqQ_ret, sqQ_exit, sx_block, blkQ_norm, blkQ_exit, blkQ_ret, sx_cond, cdP_true, cdP_false, cdP_bool, sx_region, sx_draw, plainD, List.all_cons, List.all_nil, List.isEmpty_nil, List.isEmpty_cons, sxo_nil, sxo_cons, sxo_guard, gdS_bool, gdS_eff, gdS_tup, gdS_sel, gdS_seleff, sxK_def, wcall_some, effP_ret, effP_set, effP_none, effP_ite, wop_call, wop_cv, cvP_func, sx_ret, sx_exit, sx_skip, sx_clr, stays, ↓selV_wt, ↓selV_wf, ↓impB_wt, ↓impB_wf, ↓selV_nor, ↓impB_nor, ↓selV_nt, ↓selV_nf, ↓impB_nt, ↓impB_nf, wantB_true, wantB_false, ↓selV_true, ↓selV_false, ↓selV_and, ↓impB_true, ↓impB_false, ↓impB_and, impB_triv, valOf_some, retH_some, ↓prim_pick, pickO_true, pickO_false, pickO_and, pickO_or, pickO_andr, pickO_orr, pickO_orrn, pickO_orn, pickO_bb, pickAnd_bool, pickOr_bool, ↓selV_nn, ↓impB_nn, Bool.and_assoc, Bool.or_assoc, doOp, ev_fr, ev_cst, put_none, put_fr, get, ins, del, dels, Nat.reduceLT, Nat.reduceEqDiff, ↓reduceIte, reduceCtorEq, ne_eq, not_false_eq_true, implies_true, framed_pureF, framed_fb, framed_N, framed_pure, wop_prim, prim, YLD, mkA, V.cells, List.getElem?_cons_zero, List.getElem?_cons_succ, List.set_cons_zero, List.set_cons_succ, Nat.zero_add, Nat.add_zero, Nat.reduceAdd, Nat.reduceSub, Nat.reduceMul, Nat.reduceLeDiff, Nat.not_lt_zero, List.map_cons, List.map_nil, List.cons_append, List.nil_append, loadA, cellsAt, nAg, packA, opt_bind_some, opt_map_some, opt_bind_none, opt_map_none, List.drop, List.take, List.head?, List.length_cons, List.length_nil, binA, unA, eqCells, eqCell, negB, fillA, sr_nil, sr_cons, sr_succ, sr_all, sr_len, storeA, Ob.with, indexedI, V.oneCell, intOf?, retQ_ret, retQ_norm, resA, resA1, fr_getD, packR, sealDepth, shut_bool, shut_int, Option.some.injEq, V.bool.injEq, V.int.injEq, Bool.not_true, Bool.not_false, true_and, and_true, and_self, Bool.and_true, Bool.and_false, Bool.true_and, Bool.false_and, Bool.or_true, Bool.or_false, Bool.true_or, Bool.false_or, Bool.false_eq_true, Int.reduceLT, Int.reduceLE, Int.reduceToNat, Int.reduceNeg, shut_plain, freeL_cons, freeL_nil, free_int, free_bool, free_agg, free_str, free_nils, free_tup, free_sl, true_implies, false_implies, Nat.sub_zero, Int.natCast_nonneg, Int.toNat_natCast, Nat.le_refl, not_true_eq_false, Int.reduceAdd, Int.reduceSub, Int.reduceMul, wrap64, false_and, and_false, cond_true, cond_false, Bool.cond_true_left, Bool.cond_false_right, Int.reduceBNe, Int.reduceBEq, decide_true, decide_false, Int.cast_ofNat_Int, Nat.mul_one, eq_self, Bool.true_eq_false, Bool.not_eq_true, Bool.not_eq_false, deads, List.replicate, argsF, am7, c21, pm21, m1, m2, m3, g1, g2, app_get0, app_get, app_set0, app_set, Ses.cs, newS]

theorem new_no {N n : Nat} (hn : 2 ≤ n) {me other view : Int} (hm : mayS me other view = false) (h : Heap) : callA am N n 7 [.int .i64 me, .int .i64 other, .int .i64 view] h = some (.tup [.nilp, .int .i64 2], h ++ [⟨0, .dead⟩]) := by
  obtain ⟨n, rfl⟩ : ∃ m, n = m + 1 := ⟨n - 1, by omega⟩
  have c21 := @node_spec N n (by omega)
  have e : ((!nodeB me) || ((!nodeB other) || ((me == other) || (decide (view < 0) || decide (view > 4611686018427387904))))) = true := by
    have e1 : decide (0 ≤ view) = !decide (view < 0) := by rw [Bool.eq_iff_iff]; simp
    have e2 : decide (view ≤ 4611686018427387904) = !decide (view > 4611686018427387904) := by rw [Bool.eq_iff_iff]; simp
    unfold mayS at hm
    rw [e1, e2] at hm
    revert hm
    cases nodeB me <;> cases nodeB other <;> cases (me == other) <;> cases decide (view < 0) <;> cases decide (view > 4611686018427387904) <;> simp
  refine call_keep_eq at7 rfl rfl (by decide) (sx_wp ?_)
  simp +contextual -implicitDefEqProofs (maxSteps := 10000000) only [sx_seq, sxL_succ, lpQ_norm, lpQ_exit, lpQ_ret, loopQ_norm, loopQ_exit, loopQ_ret, sqQ_norm, sqQ_ret, sqQ_exit, sx_block, blkQ_norm, blkQ_exit, blkQ_ret, sx_cond, cdP_true, cdP_false, cdP_bool, sx_region, sx_draw, plainD, List.all_cons, List.all_nil, List.isEmpty_nil, List.isEmpty_cons, sxo_nil, sxo_cons, sxo_guard, gdS_bool, gdS_eff, gdS_tup, gdS_sel, gdS_seleff, sxK_def, wcall_some, effP_ret, effP_set, effP_none, effP_ite, wop_call, wop_cv, cvP_func, sx_ret, sx_exit, sx_skip, sx_clr, stays, ↓selV_wt, ↓selV_wf, ↓impB_wt, ↓impB_wf, ↓selV_nor, ↓impB_nor, ↓selV_nt, ↓selV_nf, ↓impB_nt, ↓impB_nf, wantB_true, wantB_false, ↓selV_true, ↓selV_false, ↓selV_and, ↓impB_true, ↓impB_false, ↓impB_and, impB_triv, valOf_some, retH_some, ↓prim_pick, pickO_true, pickO_false, pickO_and, pickO_or, pickO_andr, pickO_orr, pickO_orrn, pickO_orn, pickO_bb, pickAnd_bool, pickOr_bool, ↓selV_nn, ↓impB_nn, Bool.and_assoc, Bool.or_assoc, doOp, ev_fr, ev_cst, put_none, put_fr, get, ins, del, dels, Nat.reduceLT, Nat.reduceEqDiff, ↓reduceIte, reduceCtorEq, ne_eq, not_false_eq_true, implies_true, framed_pureF, framed_fb, framed_N, framed_pure, wop_prim, prim, YLD, mkA, V.cells, List.getElem?_cons_zero, List.getElem?_cons_succ, List.set_cons_zero, List.set_cons_succ, Nat.zero_add, Nat.add_zero, Nat.reduceAdd, Nat.reduceSub, Nat.reduceMul, Nat.reduceLeDiff, Nat.not_lt_zero, List.map_cons, List.map_nil, List.cons_append, List.nil_append, loadA, cellsAt, nAg, packA, opt_bind_some, opt_map_some, opt_bind_none, opt_map_none, List.drop, List.take, List.head?, List.length_cons, List.length_nil, binA, unA, eqCells, eqCell, negB, fillA, sr_nil, sr_cons, sr_succ, sr_all, sr_len, storeA, Ob.with, indexedI, V.oneCell, intOf?, retQ_ret, retQ_norm, resA, resA1, fr_getD, packR, sealDepth, shut_bool, shut_int, Option.some.injEq, V.bool.injEq, V.int.injEq, Bool.not_true, Bool.not_false, true_and, and_true, and_self, Bool.and_true, Bool.and_false, Bool.true_and, Bool.false_and, Bool.or_true, Bool.or_false, Bool.true_or, Bool.false_or, Bool.false_eq_true, Int.reduceLT, Int.reduceLE, Int.reduceToNat, Int.reduceNeg, shut_plain, freeL_cons, freeL_nil, free_int, free_bool, free_agg, free_str, free_nils, free_tup, free_sl, true_implies, false_implies, Nat.sub_zero, Int.natCast_nonneg, Int.toNat_natCast, Nat.le_refl, not_true_eq_false, Int.reduceAdd, Int.reduceSub, Int.reduceMul, wrap64, false_and, and_false, cond_true, cond_false, Bool.cond_true_left, Bool.cond_false_right, Int.reduceBNe, Int.reduceBEq, decide_true, decide_false, Int.cast_ofNat_Int, Nat.mul_one, eq_self, Bool.true_eq_false, Bool.not_eq_true, Bool.not_eq_false, deads, List.replicate, argsF, am7, c21, pm21, e]

end Go.Am.T
