/- The abstract machine's code does what the model's does. -/
import Derived.Test.YthfpjffgagacmaaAm18
import Derived.LoopN
set_option linter.unusedVariables false
set_option linter.unusedSimpArgs false
namespace Go.Am
variable {P : Program}

/-- The slots, side by side. -/
def TRel (g : G) (w : World) (t : List V) (tmps : Array Value) : Prop := tmps.size = t.length ∧ ∀ (i : Nat) (v : V), t[i]? = some v → VRel g w v (tmps.getD i undef)

theorem TRel.ext {g g' : G} {h h' : Heap} {w w' : World} (e : Ext g h w g' h' w') (s : Sim g h w) {t : List V} {tmps : Array Value} (r : TRel g w t tmps) : TRel g' w' t tmps :=
  ⟨r.1, fun i v hi => (r.2 i v hi).ext e s⟩

theorem TRel.opd {g : G} {w : World} {t : List V} {a : Act} (r : TRel g w t a.tmps) : OpdRel g w (ev t) a.eval := by
  intro x x' hx
  cases x' with
  | tmp i =>
    simp only [trOpd, Option.some.injEq] at hx
    subst hx
    simp only [ev, Act.eval]
    rcases Nat.lt_or_ge i t.length with h | h
    · rw [List.getD_eq_getElem?_getD, List.getElem?_eq_getElem h]
      exact r.2 i _ (List.getElem?_eq_getElem h)
    · rw [List.getD_eq_getElem?_getD, List.getElem?_eq_none h]
      exact .junk _
  | const v =>
    simp only [trOpd, Option.map_eq_some_iff] at hx
    obtain ⟨c, hc, rfl⟩ := hx
    exact cst_rel g w hc
  | func f =>
    simp only [trOpd, Option.some.injEq] at hx
    subst hx
    exact .func f [] [] #[] #[] rfl rfl (by simp) (by simp)
  | global k => simp [trOpd] at hx

theorem TRel.put {g : G} {w : World} {t : List V} {a : Act} (r : TRel g w t a.tmps) {v : V} {x : Value} (hv : VRel g w v x) (dst : Option Nat) : TRel g w (put t dst v) (a.put dst x).tmps := by
  cases dst with
  | none => exact r
  | some d =>
    refine ⟨by simp [Am.put, Act.put, r.1], fun i u hi => ?_⟩
    simp only [Am.put] at hi
    simp only [Act.put]
    by_cases hid : d = i
    · subst hid
      rcases Nat.lt_or_ge d t.length with h | h
      · rw [List.getElem?_set_self h] at hi
        cases hi
        have : d < a.tmps.size := by rw [r.1]; exact h
        simp only [Array.getD_eq_getD_getElem?, Array.getElem?_setIfInBounds, this, if_true, Option.getD_some]
        simpa using hv
      · rw [List.getElem?_eq_none (by simpa using h)] at hi
        cases hi
    · rw [List.getElem?_set_ne hid] at hi
      have := r.2 i u hi
      simp only [Array.getD_eq_getD_getElem?, Array.getElem?_setIfInBounds_ne hid] at this ⊢
      exact this

def trGuard (ops : Array Oper) : Option (Nat × Bool) → Option (Option (Nat × Bool))
  | none => some none
  | some (j, want) => match (ops[j]?).bind (·.dst) with | some d => some (some (d, want)) | none => none

def trOper (P : Program) (al : List Nat) (ops : Array Oper) (o : Oper) : Option AOper :=
  match trOp P (al.idxOf (o.dst.getD 0)) o.op, trGuard ops o.guard with
  | some op, some gd => some { dst := o.dst, op := op, guard := gd }
  | _, _ => none

theorem wanted_rel {g : G} {w : World} {t : List V} {a : Act} (r : TRel g w t a.tmps) {al : List Nat} {ops : Array Oper} {o : Oper} {ao : AOper} (ht : trOper P al ops o = some ao) {b : Bool} (hw : wanted ao t = some b) :
    Region.wanted o (yielded ops a.tmps) = b := by
  unfold trOper at ht
  split at ht
  case h_2 => cases ht
  rename_i op gd h1 h2
  cases ht
  unfold wanted at hw
  simp only at hw
  unfold trGuard at h2
  split at h2
  · rename_i hg
    cases h2
    simp only [Option.some.injEq] at hw
    subst hw
    unfold Region.wanted
    rw [hg]
  · rename_i j want hg
    split at h2
    case h_2 => cases h2
    rename_i d hd
    cases h2
    simp only at hw
    unfold Region.wanted
    rw [hg]
    simp only
    have hy : yielded ops a.tmps j = match a.tmps[d]? with | some (.bool b) => some b | _ => none := by
      unfold yielded
      rw [hd]
      rfl
    rw [hy]
    have hlt : d < t.length := by
      rcases Nat.lt_or_ge d t.length with h | h
      · exact h
      · rw [List.getD_eq_getElem?_getD, List.getElem?_eq_none h] at hw; simp at hw
    have hr := r.2 d _ (List.getElem?_eq_getElem hlt)
    rw [List.getD_eq_getElem?_getD, List.getElem?_eq_getElem hlt] at hw
    simp only [Option.getD_some] at hw
    have hs : d < a.tmps.size := by rw [r.1]; exact hlt
    rw [Array.getD_eq_getD_getElem?, Array.getElem?_eq_getElem hs, Option.getD_some] at hr
    rw [Array.getElem?_eq_getElem hs]
    generalize a.tmps[d] = X at hr ⊢
    generalize t[d] = v at hr hw
    split at hw
    · rename_i c
      cases hr
      revert hw
      cases want <;> cases c <;> intro hw <;> simp at hw <;> subst hw <;> rfl
    · cases hr
      simp only [Option.some.injEq] at hw
      subst hw
      cases want <;> rfl
    · cases hw

/-- What a call does, on both sides. -/
def CallOk (P : Program) (call : Caller) : Prop := ∀ f args h v h', call f args h = some (v, h') →
  (∃ fn, P.funcs[f]? = some fn ∧ fn.body.isSome ∧ (fn.name == "runtime.NumGoroutine") = false) ∧
  ∀ g w (xs : Array Value), Sim g h w → xs.size = args.length → (∀ i c, args[i]? = some c → VRel g w c (xs.getD i undef)) →
    Calls P f xs w fun e w' => ∃ x g', e = .returned x ∧ Sim g' h' w' ∧ Ext g h w g' h' w' ∧ VRel g' w' v x

theorem run_callFunc {f : FuncId} {fn : Func} (hf : P.funcs[f]? = some fn) (hb : fn.body.isSome) (hn : (fn.name == "runtime.NumGoroutine") = false) (args : Array Value) (w : World) : (callFunc f args).run P w = .ok (.enter f args) w := by
  have h1 : fn.body ≠ none := fun e => by rw [e] at hb; cases hb
  have h2 : fn.name ≠ "runtime.NumGoroutine" := fun e => by rw [e] at hn; simp at hn
  simp [callFunc, hf, h1, h2]

theorem opds_list {g : G} {w : World} {t : List V} {a : Act} (r : TRel g w t a.tmps) {xs : Array Operand} {ys : List Opd} (h : trOpds xs.toList = some ys) :
    (xs.map a.eval).size = (ys.map (ev t)).length ∧ ∀ i c, (ys.map (ev t))[i]? = some c → VRel g w c ((xs.map a.eval).getD i undef) := by
  obtain ⟨h1, h2⟩ := trOpds_rel r.opd h
  exact VRel_list (by simp; simpa using h1) (fun i c hi => by simpa using h2 i c hi)

def AOp.isCall : AOp → Bool
  | .call .. | .callv .. => true
  | _ => false

theorem trBin_call {op : BinOp} {t : TypeId} {x y : Operand} {ao : AOp} (h : trBin P op t x y = some ao) : ao.isCall = false := by
  unfold trBin at h
  (repeat' split at h) <;> first
    | (cases h; done)
    | (cases h; rfl)
    | (simp only [Option.map_eq_some_iff] at h; obtain ⟨_, -, rfl⟩ := h; rfl)

theorem trBuiltin_call {site : Nat} {b : Builtin} {args : List Operand} {ts : List TypeId} {ao : AOp} (h : trBuiltin P site b args ts = some ao) : ao.isCall = false := by
  unfold trBuiltin at h
  (repeat' split at h) <;> first
    | (cases h; done)
    | (cases h; rfl)
    | (simp only [Option.map_eq_some_iff] at h; obtain ⟨_, -, rfl⟩ := h; rfl)

theorem trOp_call {site : Nat} {op : Op} {ao : AOp} (h : trOp P site op = some ao) (hc : ao.isCall = true) : ∃ callee xs ts, op = .call { callee := .value callee, args := xs, argTypes := ts } ∧
    ((∃ f args, callee = .func f ∧ ao = .call f args ∧ trOpds xs.toList = some args) ∨ (∃ f args, ao = .callv f args ∧ trOpd callee = some f ∧ trOpds xs.toList = some args)) := by
  cases op with
  | call c =>
    obtain ⟨callee, args, ts⟩ := c
    cases callee with
    | builtin b =>
      simp only [trOp] at h
      rw [trBuiltin_call h] at hc
      cases hc
    | invoke r m => simp [trOp] at h
    | value f =>
      refine ⟨f, args, ts, rfl, ?_⟩
      cases f <;> simp only [trOp] at h
      case func f =>
        simp only [Option.map_eq_some_iff] at h
        obtain ⟨l, hl, rfl⟩ := h
        exact .inl ⟨f, l, rfl, rfl, hl⟩
      all_goals
        split at h
        · rename_i f' l h1 h2
          cases h
          exact .inr ⟨f', l, rfl, h1, h2⟩
        · cases h
  | binOp op t x y yt =>
    simp only [trOp] at h
    rw [trBin_call h] at hc
    cases hc
  | makeFunc fn xs ys =>
    exfalso
    cases fn <;> simp only [trOp, reduceCtorEq] at h
    split at h
    · cases h; cases hc
    · cases h
  | _ =>
    exfalso
    simp only [trOp] at h
    (repeat' split at h) <;> first
      | (cases h; done)
      | (cases h; cases hc; done)
      | (simp only [Option.map_eq_some_iff] at h; obtain ⟨_, -, rfl⟩ := h; cases hc)

/-- One operation. -/
theorem sim_step {call : Caller} (hcall : CallOk P call) {fb : Nat} {g : G} {h : Heap} {w : World} (s : Sim g h w) {t : List V} {a : Act} (r : TRel g w t a.tmps) {al : List Nat} {ops : Array Oper} {o : Oper} {ao : AOper} (ht : trOper P al ops o = some ao)
    {s' : List V × Heap} (hst : stepOp call fb ao t h = some s') {K : Act → World → Prop} {Q : Exit → Act → World → Prop}
    (hK : ∀ g' w' a', Sim g' s'.2 w' → Ext g h w g' s'.2 w' → TRel g' w' s'.1 a'.tmps → a'.defers = a.defers → K a' w') :
    if Region.wanted o (yielded ops a.tmps) then o.wp P a w K Q else K (a.put o.dst undef) w := by
  have hdst : ao.dst = o.dst := by
    unfold trOper at ht
    split at ht <;> cases ht
    rfl
  have defers : ∀ x, (a.put o.dst x).defers = a.defers := fun x => by cases o.dst <;> rfl
  unfold stepOp at hst
  cases hw : wanted ao t with
  | none => simp [hw] at hst
  | some b =>
    rw [wanted_rel r ht hw]
    cases b with
    | false =>
      simp only [hw, Option.some.injEq] at hst
      subst hst
      simp only [Bool.false_eq_true, if_false]
      refine hK g w _ s (Ext.refl _ _ _) ?_ (defers _)
      rw [hdst]
      exact r.put (.tup [] #[] rfl (by simp)) _
    | true =>
      simp only [hw] at hst
      simp only [if_true]
      have hop : trOp P (al.idxOf (o.dst.getD 0)) o.op = some ao.op := by
        unfold trOper at ht
        split at ht
        · rename_i op gd h1 h2
          cases ht
          exact h1
        · cases ht
      -- a call
      have calls : ∀ (f : FuncId) (args : List V) (xs : Array Value) (v : V) (h1 : Heap), call f args h = some (v, h1) → s' = (put t ao.dst v, h1) → xs.size = args.length → (∀ i c, args[i]? = some c → VRel g w c (xs.getD i undef)) →
          (execOp a.eval o).run P w = .ok (.enter f xs) w → o.wp P a w K Q := by
        intro f args xs v h1 hc hs' hl hx hr
        subst hs'
        obtain ⟨-, hcl⟩ := hcall f args h v h1 hc
        unfold Oper.wp
        rw [hr]
        refine (hcl g w xs s hl hx).mono ?_
        rintro e w' ⟨x, g', rfl, q1, q2, q3⟩
        refine hK g' w' _ q1 q2 ?_ (defers _)
        rw [hdst]
        exact (r.ext q2 s).put q3 _
      cases hao : ao.op with
      | call f args =>
        rw [hao] at hop hst
        simp only [doOp] at hst
        cases hc : call f (args.map (ev t)) h with
        | none => simp [hc] at hst
        | some p =>
          obtain ⟨v, h1⟩ := p
          simp only [hc, Option.some.injEq] at hst
          obtain ⟨⟨fn, hf, hb, hn⟩, -⟩ := hcall _ _ _ _ _ hc
          obtain ⟨callee, xs, ts, ho, hh⟩ := trOp_call hop rfl
          rcases hh with ⟨f', args', rfl, he, hxs⟩ | ⟨f', args', he, -⟩
          · cases he
            obtain ⟨l1, l2⟩ := opds_list r hxs
            refine calls f _ (xs.map a.eval) v h1 hc hst.symm l1 l2 ?_
            simp [execOp, ho, resolve, Deferred.ofValue, Act.eval, invoke, run_callFunc hf hb hn]
          · cases he
      | callv f args =>
        rw [hao] at hop hst
        simp only [doOp] at hst
        obtain ⟨callee, xs, ts, ho, hh⟩ := trOp_call hop rfl
        rcases hh with ⟨f', args', -, he, -⟩ | ⟨f', args', he, hcf, hxs⟩
        · cases he
        · cases he
          have hr := r.opd _ _ hcf
          obtain ⟨l1, l2⟩ := opds_list r hxs
          split at hst
          case h_2 => cases hst
          rename_i v h1 hq
          simp only [Option.some.injEq] at hst
          split at hq
          case h_2 => cases hq
          rename_i fid us vs hfv
          rw [hfv] at hr
          generalize hX : a.eval callee = X at hr
          cases hr with
          | func _ _ _ us' vs' k1 k2 k3 k4 =>
            obtain ⟨⟨fn, hf, hb, hn⟩, -⟩ := hcall _ _ _ _ _ hq
            refine calls fid _ (us' ++ xs.map a.eval ++ vs') v h1 hq hst.symm (by simp only [Array.size_append, List.length_append, k1, k2, l1]) ?_ ?_
            · intro i c hi
              have e1 : us'.toList.length = us.length := by simpa using k1
              have key : ∀ (l : List V) (zs : Array Value), zs.size = l.length → (∀ i c, l[i]? = some c → VRel g w c (zs.getD i undef)) → ∀ (i : Nat) (c : V), l[i]? = some c → ∃ x, zs[i]? = some x ∧ VRel g w c x := by
                intro l zs hz hr i c hi
                have hlt : i < zs.size := by rcases Nat.lt_or_ge i l.length with h | h; omega; simp [List.getElem?_eq_none h] at hi
                have := hr i c hi
                rw [Array.getD_eq_getD_getElem?, Array.getElem?_eq_getElem hlt, Option.getD_some] at this
                exact ⟨zs[i], by simp [hlt], this⟩
              have app : ∀ (l l' : List V) (zs zs' : Array Value), zs.size = l.length → (∀ (i : Nat) (c : V), l[i]? = some c → ∃ x, zs[i]? = some x ∧ VRel g w c x) → (∀ (i : Nat) (c : V), l'[i]? = some c → ∃ x, zs'[i]? = some x ∧ VRel g w c x) →
                  ∀ (i : Nat) (c : V), (l ++ l')[i]? = some c → ∃ x, (zs ++ zs')[i]? = some x ∧ VRel g w c x := by
                intro l l' zs zs' hz h1 h2 i c hi
                rcases Nat.lt_or_ge i l.length with hlt | hge
                · rw [List.getElem?_append_left hlt] at hi
                  obtain ⟨x, hx, hr⟩ := h1 i c hi
                  exact ⟨x, by rw [Array.getElem?_append_left (by omega)]; exact hx, hr⟩
                · rw [List.getElem?_append_right hge] at hi
                  obtain ⟨x, hx, hr⟩ := h2 _ c hi
                  exact ⟨x, by rw [Array.getElem?_append_right (by omega), hz]; exact hx, hr⟩
              obtain ⟨x, hx, hr⟩ := app _ _ _ _ (by simp only [Array.size_append, List.length_append, k1, l1]) (app _ _ _ _ k1 (key _ _ k1 k3) (key _ _ l1 l2)) (key _ _ k2 k4) i c hi
              rw [Array.getD_eq_getD_getElem?, hx, Option.getD_some]
              exact hr
            · simp [execOp, ho, resolve, Deferred.ofValue, hX, invoke, run_callFunc hf hb hn]
      | _ =>
        rw [hao] at hop hst
        simp only [doOp] at hst
        split at hst
        case h_2 => cases hst
        rename_i v h1 hq
        simp only [Option.some.injEq] at hst
        subst hst
        have fin : PrimGoes P (execOp a.eval o) g h w v h1 → o.wp P a w K Q := by
          rintro ⟨g', w', x, n, hrun, hn, q1, q2, q3⟩
          unfold Oper.wp
          rw [hrun]
          rcases hn with rfl | ⟨rfl, rfl⟩
          · refine hK g' w' _ q1 q2 ?_ (defers _)
            rw [hdst]
            exact (r.ext q2 s).put q3 _
          · refine hK g' w' _ q1 q2 ?_ (defers _)
            rw [hdst]
            exact (r.ext q2 s).put q3 _
        split at hq
        · rename_i u he
          cases hq
          exact fin (sim_prim (P := P) r.opd (fun _ => rfl) s hop he)
        · rename_i i z u he
          cases hq
          exact fin (sim_prim (P := P) r.opd (fun _ => rfl) s hop he)
        · cases hq

end Go.Am
