/- More fuel does no harm; what a closed call answers, it answers whatever lies about. -/
import Derived.Test.YtifbkofianklaaaAw2
set_option linter.unusedVariables false
set_option linter.unusedSimpArgs false
namespace Go.Am

/-- What the one answers the other answers. -/
def Sub (c c' : Caller) : Prop := ∀ f args h r, c f args h = some r → c' f args h = some r

theorem doOp_mono {c c' : Caller} (hc : Sub c c') {fb : Nat} {op : AOp} {ρ : Opd → V} {h : Heap} {r : V × Heap} (H : doOp c fb op ρ h = some r) : doOp c' fb op ρ h = some r := by
  unfold doOp at *
  split at H
  · split at H
    · cases H
    · rename_i hny
      simp only [if_neg hny]
      exact hc _ _ _ _ H
  · split at H
    · split at H
      · cases H
      · rename_i hny
        simp only [if_neg hny]
        exact hc _ _ _ _ H
    · exact hc _ _ _ _ H
    · cases H
  · exact H

theorem stepOp_mono {c c' : Caller} (hc : Sub c c') {fb : Nat} {o : AOper} {t : List V} {h : Heap} {r : List V × Heap} (H : stepOp c fb o t h = some r) : stepOp c' fb o t h = some r := by
  unfold stepOp at *
  split at H
  · cases H
  · exact H
  · split at H
    · rename_i v h' hd
      rw [doOp_mono hc hd]
      exact H
    · cases H

theorem runOps_mono {c c' : Caller} (hc : Sub c c') {fb : Nat} : ∀ {ops : List AOper} {t : List V} {h : Heap} {r : List V × Heap}, runOps c fb ops t h = some r → runOps c' fb ops t h = some r
  | [], t, h, r, H => H
  | o :: os, t, h, r, H => by
    simp only [runOps] at *
    split at H
    · rename_i t' h' hs
      rw [stepOp_mono hc hs]
      exact runOps_mono hc H
    · cases H

theorem runDraw_mono {pureF : FuncId → FMode} {c c' : Caller} (hc : Sub c c') {fb n : Nat} : ∀ {ops : List (AOper × List Nat)} {fps : List Fp} {t : List V} {h : Heap} {r : List V × Heap},
    runDraw pureF c fb n ops fps t h = some r → runDraw pureF c' fb n ops fps t h = some r
  | [], fps, t, h, r, H => H
  | (o, ps) :: os, fps, t, h, r, H => by
    simp only [runDraw] at *
    split at H
    · rename_i hp
      rw [if_pos hp]
      split at H
      · rename_i t' h' hs
        rw [stepOp_mono hc hs]
        exact runDraw_mono hc H
      · cases H
    · cases H

theorem frameC_mono {pureF : FuncId → FMode} {c c' : Caller} (hc : Sub c c') : Sub (frameC pureF c) (frameC pureF c') := by
  intro f args h r H
  unfold frameC at *
  by_cases hny : f = YLD
  · rw [if_pos hny] at H ⊢
    split at H
    · rename_i v k e
      rw [hc _ _ _ _ e]
      exact H
    · cases H
  rw [if_neg hny] at H ⊢
  split at H
  · exact hc _ _ _ _ H
  · split at H
    · rename_i hp; rw [if_pos hp]; exact hc _ _ _ _ H
    · cases H
  · split at H
    · rename_i v h1 e1 e2
      rw [e1, hc _ _ _ _ e2]
      exact H
    · cases H

theorem loopN_mono {f f' : List V → Heap → Option (Ex × List V × Heap)} (hf : ∀ t h r, f t h = some r → f' t h = some r) {pre : List V → Heap → List V × Heap} : ∀ {n n' : Nat} {t : List V} {h : Heap} {r : Ex × List V × Heap}, n ≤ n' →
    loopN f pre n t h = some r → loopN f' pre n' t h = some r
  | 0, n', t, h, r, hn, H => by simp [loopN] at H
  | n + 1, n', t, h, r, hn, H => by
    obtain ⟨m, rfl⟩ : ∃ m, n' = m + 1 := ⟨n' - 1, by omega⟩
    simp only [loopN] at *
    split at H
    · rename_i t' h' hs
      rw [hf _ _ _ hs]
      exact loopN_mono hf (by omega) H
    · rename_i hne
      rw [hf _ _ _ H]
      obtain ⟨e, t', h'⟩ := r
      cases e with
      | norm => exact absurd H (hne _ _)
      | _ => rfl

theorem exec_mono {pureF : FuncId → FMode} {c c' : Caller} (hc : Sub c c') {N N' : Nat} (hN : N ≤ N') {fb : Nat} : ∀ {code : ACode} {t : List V} {h : Heap} {r : Ex × List V × Heap}, exec pureF c N fb code t h = some r → exec pureF c' N' fb code t h = some r
  | .skip, t, h, r, H => H
  | .region ops, t, h, r, H => by
    simp only [exec] at *
    split at H
    · rename_i hs; rw [runOps_mono hc hs]; exact H
    · cases H
  | .draw ops, t, h, r, H => by
    simp only [exec] at *
    split at H
    · rename_i hs; rw [runDraw_mono (frameC_mono hc) hs]; exact H
    · cases H
  | .seq a b, t, h, r, H => by
    simp only [exec] at *
    split at H
    · rename_i hs; rw [exec_mono hc hN hs]; exact exec_mono hc hN H
    · rename_i hne
      rw [exec_mono hc hN H]
      obtain ⟨e, t', h'⟩ := r
      cases e with
      | norm => exact absurd H (hne _ _)
      | _ => rfl
  | .cond cd a b, t, h, r, H => by
    simp only [exec] at *
    split at H
    · exact exec_mono hc hN H
    · exact exec_mono hc hN H
    · cases H
  | .block id b, t, h, r, H => by
    simp only [exec] at *
    split at H
    · rename_i hs; rw [exec_mono hc hN hs]; exact H
    · rename_i hne
      rw [exec_mono hc hN H]
      obtain ⟨e, t', h'⟩ := r
      cases e with
      | exit i => exact absurd H (hne _ _ _)
      | _ => rfl
  | .loop clr kill b, t, h, r, H => by
    simp only [exec] at *
    exact loopN_mono (fun t h r => exec_mono hc hN) hN H
  | .exit id, t, h, r, H => H
  | .ret, t, h, r, H => H
  | .clr l, t, h, r, H => H
  | .rangeF f ps a b fid k site, t, h, r, H => by
    simp only [exec] at *
    split at H
    · split at H
      · rename_i hx _ _ _ _ he
        split at H
        · cases H
        · rename_i hny
          simp only [he, if_neg hny]
          split at H
          · rename_i e
            rw [hc _ _ _ _ e]
            exact H
          · cases H
      · cases H
    · cases H

theorem yieldA_mono {p : AProg} {c c' : Caller} (hc : Sub c c') {N N' : Nat} (hN : N ≤ N') {args : List V} {h : Heap} {r : V × Heap} (H : yieldA p c N args h = some r) : yieldA p c' N' args h = some r := by
  unfold yieldA at *
  split at H
  case h_2 => cases H
  split at H
  case h_2 => cases H
  split at H
  case isFalse => cases H
  rename_i hv
  try rw [if_pos hv]
  split at H
  case h_2 => cases H
  rename_i hp
  split at H
  case h_2 => cases H
  rename_i hr
  try rw [hr]
  split at H
  case isFalse => cases H
  rename_i hl
  try rw [if_pos hl]
  split at H
  case h_2 => cases H
  rename_i he
  rw [exec_mono hc hN he]
  split at H
  case h_2 => cases H
  rename_i ho
  split at H
  case isFalse => cases H
  rename_i hv2
  simp only [ho, hv2, ↓reduceIte] at H ⊢
  split at H
  case h_2 => cases H
  rename_i he2
  rw [exec_mono hc hN he2]
  exact H

theorem bodyA_mono {p : AProg} {c c' : Caller} (hc : Sub c c') {N N' : Nat} (hN : N ≤ N') {fb : Nat} {fn : AFunc} {args : List V} {h : Heap} {r : V × Heap} (H : bodyA p c N fb fn args h = some r) : bodyA p c' N' fb fn args h = some r := by
  unfold bodyA at *
  split at H
  · rename_i he; rw [exec_mono hc hN he]; exact H
  · rename_i he; rw [exec_mono hc hN he]; exact H
  · cases H

theorem callA_mono (p : AProg) : ∀ {n n' : Nat} {N N' : Nat}, n ≤ n' → N ≤ N' → Sub (callA p N n) (callA p N' n')
  | 0, n', N, N', hn, hN => by intro f args h r H; simp [callA] at H
  | n + 1, n', N, N', hn, hN => by
    obtain ⟨m, rfl⟩ : ∃ m, n' = m + 1 := ⟨n' - 1, by omega⟩
    have ih : Sub (callA p N n) (callA p N' m) := callA_mono p (by omega) hN
    intro f args h r H
    unfold callA at *
    by_cases hny : f = YLD
    · rw [if_pos hny] at H ⊢
      exact yieldA_mono ih hN H
    rw [if_neg hny] at H ⊢
    cases hf : p[f]? with
    | none => simp [hf] at H
    | some o =>
      cases o with
      | none => simp [hf] at H
      | some fn =>
        simp only [hf] at H ⊢
        by_cases hl : args.length = fn.nargs
        · rw [if_pos hl] at H ⊢
          cases hm : fn.mode with
          | keep => simp only [hm] at H ⊢; exact bodyA_mono ih hN H
          | auto =>
            simp only [hm] at H ⊢
            by_cases hfr : V.freeL args = true
            · rw [if_pos hfr] at H ⊢
              cases hb : bodyA p (callA p N n) N 0 fn args (deads fn.sites) with
              | none => simp [hb] at H
              | some x => rw [hb] at H; rw [bodyA_mono ih hN hb]; exact H
            · rw [if_neg hfr] at H ⊢
              exact bodyA_mono ih hN H
          | pure =>
            simp only [hm] at H ⊢
            by_cases hfr : V.freeL args = true
            · rw [if_pos hfr] at H ⊢
              cases hb : bodyA p (callA p N n) N 0 fn args (deads fn.sites) with
              | none => simp [hb] at H
              | some x => rw [hb] at H; rw [bodyA_mono ih hN hb]; exact H
            · rw [if_neg hfr] at H
              cases H
          | look =>
            simp only [hm] at H ⊢
            cases ha : args.mapM (V.shut (fun o => h[o]?) sealDepth) with
            | none => simp [ha] at H
            | some args' =>
              simp only [ha] at H ⊢
              cases hb : bodyA p (callA p N n) N 0 fn args' (deads fn.sites) with
              | none => simp [hb] at H
              | some x => rw [hb] at H; rw [bodyA_mono ih hN hb]; exact H
        · rw [if_neg hl] at H
          cases H

/-- A pure call, on whatever memory. -/
theorem callA_heap {p : AProg} {N n : Nat} {f : FuncId} {args : List V} {h h' : Heap} {v : V} (hm : pureOf p f = .pure) (H : callA p N n f args h' = some (v, h')) (hy : f ≠ YLD := by decide) : callA p N n f args h = some (v, h) := by
  cases n with
  | zero => simp [callA] at H
  | succ n =>
    unfold callA at *
    rw [if_neg hy] at H ⊢
    unfold pureOf at hm
    cases hf : p[f]? with
    | none => simp [hf] at H
    | some o =>
      cases o with
      | none => simp [hf] at H
      | some fn =>
        simp only [hf] at H hm ⊢
        by_cases hl : args.length = fn.nargs
        · rw [if_pos hl] at H ⊢
          simp only [hm] at H ⊢
          by_cases hfr : V.freeL args = true
          · rw [if_pos hfr] at H ⊢
            cases hb : bodyA p (callA p N n) N 0 fn args (deads fn.sites) with
            | none => simp [hb] at H
            | some x =>
              obtain ⟨y, k⟩ := x
              simp only [hb] at H ⊢
              cases hs : V.shut (fun o => k[o]?) sealDepth y with
              | none => simp [hs] at H
              | some z =>
                simp only [hs, Option.some.injEq, Prod.mk.injEq] at H ⊢
                exact ⟨H.1, trivial⟩
          · rw [if_neg hfr] at H
            cases H
        · rw [if_neg hl] at H
          cases H

/-- A closed call that was run. -/
theorem closed_call {p : AProg} {N0 n0 : Nat} {f : FuncId} {args : List V} {v : V} (hm : pureOf p f = .pure) (H : callA p N0 n0 f args [] = some (v, [])) {N n : Nat} (hN : N0 ≤ N) (hn : n0 ≤ n) (h : Heap) (hy : f ≠ YLD := by decide) : callA p N n f args h = some (v, h) :=
  callA_mono p hn hN f args h (v, h) (callA_heap (h := h) (h' := []) hm H hy)

theorem shutAll_free {get : Nat → Option Ob} : ∀ {l : List V}, V.freeL l = true → l.mapM (V.shut get sealDepth) = some l
  | [], _ => rfl
  | c :: l, h => by
    simp only [freeL_cons, Bool.and_eq_true] at h
    rw [List.mapM_cons, show sealDepth = 63 + 1 from rfl, shut_plain h.1]
    have := shutAll_free (get := get) h.2
    rw [show sealDepth = 63 + 1 from rfl] at this
    rw [this]
    rfl

theorem call_look {p : AProg} {N n : Nat} {f : FuncId} {fn : AFunc} {args args' : List V} {h : Heap} {v : V} (hf : p[f]? = some (some fn)) (hm : fn.mode = .look) (ha : args.length = fn.nargs) (hl : fn.nargs ≤ fn.nt)
    (hs : args.mapM (V.shut (fun o => h[o]?) sealDepth) = some args')
    (H : wp ⟨pureOf p, callA p N n, N, 0⟩ fn.body (fr fn.nt (argsF 0 args')) (deads fn.sites) (retQ fn.res fun x h' => x = v ∧ v.plain = true)) (hy : f ≠ YLD := by decide) :
    callA p N (n + 1) f args h = some (v, h) := by
  have hl' : args'.length = args.length := (mapM_get hs).1
  obtain ⟨x, h', hb, hx, hp⟩ := body_of_wp (by omega) H
  subst hx
  unfold callA
  rw [if_neg hy]
  simp only [hf, ha, ↓reduceIte, hm, hs, hb, hp]

/-- A function of mode 'auto' whose arguments name no objects. -/
theorem call_auto {p : AProg} {N n : Nat} {f : FuncId} {fn : AFunc} {args : List V} {h : Heap} {v : V} (hf : p[f]? = some (some fn)) (hm : fn.mode = .auto) (ha : args.length = fn.nargs) (hl : fn.nargs ≤ fn.nt)
    (hfree : V.freeL args = true)
    (H : wp ⟨pureOf p, callA p N n, N, 0⟩ fn.body (fr fn.nt (argsF 0 args)) (deads fn.sites) (retQ fn.res fun x h' => V.shut (fun o => h'[o]?) sealDepth x = some v)) (hy : f ≠ YLD := by decide) :
    callA p N (n + 1) f args h = some (v, h) := by
  obtain ⟨x, h', hb, hs⟩ := body_of_wp (by omega) H
  unfold callA
  rw [if_neg hy]
  simp only [hf, ha, ↓reduceIte, hm, hfree, hb, hs]

theorem plain_bool (b : Bool) : (V.bool b).plain = true := rfl
theorem plain_int (k : IntKind) (b : Int) : (V.int k b).plain = true := rfl

end Go.Am
