/- The abstract machine's code does what the model's does. -/
import Derived.Test.YtifbkofianklaaaAm18
import Derived.LoopNIn
import Derived.OrdersIn
import Derived.TacticsIn
set_option linter.unusedVariables false
set_option linter.unusedSimpArgs false
namespace Go.Am
variable {P : Program}

/-- The slots, side by side. -/
def TRel (g : G) (w : World) (t : List V) (tmps : Array Value) : Prop := tmps.size = t.length ∧ ∀ (i : Nat) (v : V), t[i]? = some v → VRel g w v (tmps.getD i undef)

theorem TRel.ext {g g' : G} {h h' : Heap} {w w' : World} (e : Ext g h w g' h' w') (s : Sim g h w) {t : List V} {tmps : Array Value} (r : TRel g w t tmps) : TRel g' w' t tmps :=
  ⟨r.1, fun i v hi => (r.2 i v hi).ext e s⟩

theorem TRel.opd {g : G} {w : World} {t : List V} {a : Act} (r : TRel g w t a.tmps) : OpdRel g w (ev t) a.eval := by
  intro x x' hx
  cases x' with
  | tmp i =>
    simp only [trOpd, Option.some.injEq] at hx
    subst hx
    simp only [ev, Act.eval]
    rcases Nat.lt_or_ge i t.length with h | h
    · rw [List.getD_eq_getElem?_getD, List.getElem?_eq_getElem h]
      exact r.2 i _ (List.getElem?_eq_getElem h)
    · rw [List.getD_eq_getElem?_getD, List.getElem?_eq_none h]
      exact .junk _
  | const v =>
    simp only [trOpd, Option.map_eq_some_iff] at hx
    obtain ⟨c, hc, rfl⟩ := hx
    exact cst_rel g w hc
  | func f =>
    simp only [trOpd, Option.some.injEq] at hx
    subst hx
    exact .func f [] [] #[] #[] rfl rfl (by simp) (by simp)
  | global k => simp [trOpd] at hx

theorem TRel.put {g : G} {w : World} {t : List V} {a : Act} (r : TRel g w t a.tmps) {v : V} {x : Value} (hv : VRel g w v x) (dst : Option Nat) : TRel g w (put t dst v) (a.put dst x).tmps := by
  cases dst with
  | none => exact r
  | some d =>
    refine ⟨by simp [Am.put, Act.put, r.1], fun i u hi => ?_⟩
    simp only [Am.put] at hi
    simp only [Act.put]
    by_cases hid : d = i
    · subst hid
      rcases Nat.lt_or_ge d t.length with h | h
      · rw [List.getElem?_set_self h] at hi
        cases hi
        have : d < a.tmps.size := by rw [r.1]; exact h
        simp only [Array.getD_eq_getD_getElem?, Array.getElem?_setIfInBounds, this, if_true, Option.getD_some]
        simpa using hv
      · rw [List.getElem?_eq_none (by simpa using h)] at hi
        cases hi
    · rw [List.getElem?_set_ne hid] at hi
      have := r.2 i u hi
      simp only [Array.getD_eq_getD_getElem?, Array.getElem?_setIfInBounds_ne hid] at this ⊢
      exact this

def trGuard (ops : Array Oper) : Option (Nat × Bool) → Option (Option (Nat × Bool))
  | none => some none
  | some (j, want) => match (ops[j]?).bind (·.dst) with | some d => some (some (d, want)) | none => none

def trOper (P : Program) (al : List Nat) (ops : Array Oper) (o : Oper) : Option AOper :=
  match trOp P (al.idxOf (o.dst.getD 0)) o.op, trGuard ops o.guard with
  | some op, some gd => some { dst := o.dst, op := op, guard := gd }
  | _, _ => none

theorem wanted_rel {g : G} {w : World} {t : List V} {a : Act} (r : TRel g w t a.tmps) {al : List Nat} {ops : Array Oper} {o : Oper} {ao : AOper} (ht : trOper P al ops o = some ao) {b : Bool} (hw : wanted ao t = some b) :
    Region.wanted o (yielded ops a.tmps) = b := by
  unfold trOper at ht
  split at ht
  case h_2 => cases ht
  rename_i op gd h1 h2
  cases ht
  unfold wanted at hw
  simp only at hw
  unfold trGuard at h2
  split at h2
  · rename_i hg
    cases h2
    simp only [Option.some.injEq] at hw
    subst hw
    unfold Region.wanted
    rw [hg]
  · rename_i j want hg
    split at h2
    case h_2 => cases h2
    rename_i d hd
    cases h2
    simp only at hw
    unfold Region.wanted
    rw [hg]
    simp only
    have hy : yielded ops a.tmps j = match a.tmps[d]? with | some (.bool b) => some b | _ => none := by
      unfold yielded
      rw [hd]
      rfl
    rw [hy]
    have hlt : d < t.length := by
      rcases Nat.lt_or_ge d t.length with h | h
      · exact h
      · rw [List.getD_eq_getElem?_getD, List.getElem?_eq_none h] at hw; simp at hw
    have hr := r.2 d _ (List.getElem?_eq_getElem hlt)
    rw [List.getD_eq_getElem?_getD, List.getElem?_eq_getElem hlt] at hw
    simp only [Option.getD_some] at hw
    have hs : d < a.tmps.size := by rw [r.1]; exact hlt
    rw [Array.getD_eq_getD_getElem?, Array.getElem?_eq_getElem hs, Option.getD_some] at hr
    rw [Array.getElem?_eq_getElem hs]
    generalize a.tmps[d] = X at hr ⊢
    generalize t[d] = v at hr hw
    split at hw
    · rename_i c
      cases hr
      revert hw
      cases want <;> cases c <;> intro hw <;> simp at hw <;> subst hw <;> rfl
    · cases hr
      simp only [Option.some.injEq] at hw
      subst hw
      cases want <;> rfl
    · cases hw

/-- The wide fence; in a round of the loop that is named. -/
def FR (rd : Option Nat) : Fence := { Fence.wide with round := rd }

theorem callsIn_FR {rd : Option Nat} {n : Nat} {f : FuncId} {args : Array Value} {w : World} {R : Ending → World → Prop} (h : Calls P f args w R) : CallsIn (FR rd) n P f args w R :=
  (callsIn_wide (n := n)).2 h

theorem trOp_defer {site : Nat} {op : Op} {ao : AOp} (h : trOp P site op = some ao) : ∀ c, op ≠ .defer c := by
  rintro c rfl
  simp [trOp] at h

/-- What a call does, on both sides. -/
structure CallOk (P : Program) (call : Caller) : Prop where
  fn : ∀ f args h v h', f ≠ YLD → call f args h = some (v, h') →
    (∃ fn, P.funcs[f]? = some fn ∧ fn.body.isSome ∧ (fn.name == "runtime.NumGoroutine") = false) ∧
    ∀ g w (xs : Array Value), g.code = codesOf P → Sim g h w → xs.size = args.length → (∀ i c, args[i]? = some c → VRel g w c (xs.getD i undef)) →
      Calls P f xs w fun e w' => ∃ x g', e = .returned x ∧ Sim g' h' w' ∧ Ext g h w g' h' w' ∧ VRel g' w' v x
  yld : ∀ o ver args h v h', call YLD (.yld o ver :: args) h = some (v, h') →
    ∀ g w (xs : Array Value) b rd n, g.code = codesOf P → Sim g h w → g.loc o ver = some (b, 0) → xs.size = args.length → (∀ i c, args[i]? = some c → VRel g w c (xs.getD i undef)) →
      ∃ fn tmps asn body, (Instr.yield b xs).run P w = .ok (.round b fn tmps asn body) w ∧
        RoundIn (FR rd) n P b fn tmps asn body w fun e w' => ∃ x g', e = .returned x ∧ Sim g' h' w' ∧ Ext g h w g' h' w' ∧ VRel g' w' v x

theorem run_callFunc {f : FuncId} {fn : Func} (hf : P.funcs[f]? = some fn) (hb : fn.body.isSome) (hn : (fn.name == "runtime.NumGoroutine") = false) (args : Array Value) (w : World) : (callFunc f args).run P w = .ok (.enter f args) w := by
  have h1 : fn.body ≠ none := fun e => by rw [e] at hb; cases hb
  have h2 : fn.name ≠ "runtime.NumGoroutine" := fun e => by rw [e] at hn; simp at hn
  simp [callFunc, hf, h1, h2]

theorem opds_list {g : G} {w : World} {t : List V} {a : Act} (r : TRel g w t a.tmps) {xs : Array Operand} {ys : List Opd} (h : trOpds xs.toList = some ys) :
    (xs.map a.eval).size = (ys.map (ev t)).length ∧ ∀ i c, (ys.map (ev t))[i]? = some c → VRel g w c ((xs.map a.eval).getD i undef) := by
  obtain ⟨h1, h2⟩ := trOpds_rel r.opd h
  exact VRel_list (by simp; simpa using h1) (fun i c hi => by simpa using h2 i c hi)

def AOp.isCall : AOp → Bool
  | .call .. | .callv .. => true
  | _ => false

theorem trBin_call {op : BinOp} {t : TypeId} {x y : Operand} {ao : AOp} (h : trBin P op t x y = some ao) : ao.isCall = false := by
  unfold trBin at h
  (repeat' split at h) <;> first
    | (cases h; done)
    | (cases h; rfl)
    | (simp only [Option.map_eq_some_iff] at h; obtain ⟨_, -, rfl⟩ := h; rfl)

theorem trBuiltin_call {site : Nat} {b : Builtin} {args : List Operand} {ts : List TypeId} {ao : AOp} (h : trBuiltin P site b args ts = some ao) : ao.isCall = false := by
  unfold trBuiltin at h
  (repeat' split at h) <;> first
    | (cases h; done)
    | (cases h; rfl)
    | (simp only [Option.map_eq_some_iff] at h; obtain ⟨_, -, rfl⟩ := h; rfl)

theorem trOp_call {site : Nat} {op : Op} {ao : AOp} (h : trOp P site op = some ao) (hc : ao.isCall = true) : ∃ callee xs ts, op = .call { callee := .value callee, args := xs, argTypes := ts } ∧
    ((∃ f args, callee = .func f ∧ ao = .call f args ∧ trOpds xs.toList = some args) ∨ (∃ f args, ao = .callv f args ∧ trOpd callee = some f ∧ trOpds xs.toList = some args)) := by
  cases op with
  | call c =>
    obtain ⟨callee, args, ts⟩ := c
    cases callee with
    | builtin b =>
      simp only [trOp] at h
      rw [trBuiltin_call h] at hc
      cases hc
    | invoke r m => simp [trOp] at h
    | value f =>
      refine ⟨f, args, ts, rfl, ?_⟩
      cases f <;> simp only [trOp] at h
      case func f =>
        simp only [Option.map_eq_some_iff] at h
        obtain ⟨l, hl, rfl⟩ := h
        exact .inl ⟨f, l, rfl, rfl, hl⟩
      all_goals
        split at h
        · rename_i f' l h1 h2
          cases h
          exact .inr ⟨f', l, rfl, h1, h2⟩
        · cases h
  | binOp op t x y yt =>
    simp only [trOp] at h
    rw [trBin_call h] at hc
    cases hc
  | makeFunc fn xs ys =>
    exfalso
    cases fn <;> simp only [trOp, reduceCtorEq] at h
    split at h
    · cases h; cases hc
    · cases h
  | _ =>
    exfalso
    simp only [trOp] at h
    (repeat' split at h) <;> first
      | (cases h; done)
      | (cases h; cases hc; done)
      | (simp only [Option.map_eq_some_iff] at h; obtain ⟨_, -, rfl⟩ := h; cases hc)

/-- One operation. -/
theorem sim_step {call : Caller} (hcall : CallOk P call) {fb : Nat} {g : G} {h : Heap} {w : World} (hgc : g.code = codesOf P) (s : Sim g h w) {t : List V} {a : Act} (r : TRel g w t a.tmps) {al : List Nat} {ops : Array Oper} {o : Oper} {ao : AOper} (ht : trOper P al ops o = some ao)
    {s' : List V × Heap} (hst : stepOp call fb ao t h = some s') {rd : Option Nat} {n : Nat} {K : Act → World → Prop} {Q : Exit → Act → World → Prop}
    (hK : ∀ g' w' a', Sim g' s'.2 w' → Ext g h w g' s'.2 w' → TRel g' w' s'.1 a'.tmps → a'.defers = a.defers → K a' w') :
    if Region.wanted o (yielded ops a.tmps) then o.wpIn (FR rd) n P a w K Q else (∀ f, o.about P w a.eval = some f → (FR rd).fn f) ∧ K (a.put o.dst undef) w := by
  have hdst : ao.dst = o.dst := by
    unfold trOper at ht
    split at ht <;> cases ht
    rfl
  have defers : ∀ x, (a.put o.dst x).defers = a.defers := fun x => by cases o.dst <;> rfl
  unfold stepOp at hst
  cases hw : wanted ao t with
  | none => simp [hw] at hst
  | some b =>
    rw [wanted_rel r ht hw]
    cases b with
    | false =>
      simp only [hw, Option.some.injEq] at hst
      subst hst
      simp only [Bool.false_eq_true, if_false]
      refine ⟨fun _ _ => trivial, hK g w _ s (Ext.refl _ _ _) ?_ (defers _)⟩
      rw [hdst]
      exact r.put (.tup [] #[] rfl (by simp)) _
    | true =>
      simp only [hw] at hst
      simp only [if_true]
      have hop : trOp P (al.idxOf (o.dst.getD 0)) o.op = some ao.op := by
        unfold trOper at ht
        split at ht
        · rename_i op gd h1 h2
          cases ht
          exact h1
        · cases ht
      have hsem : o.semAt (FR rd).round a.eval = execOp a.eval o := Oper.semAt_eq _ _ _ (trOp_defer hop)
      -- a call
      have calls : ∀ (f : FuncId) (args : List V) (xs : Array Value) (v : V) (h1 : Heap), f ≠ YLD → call f args h = some (v, h1) → s' = (put t ao.dst v, h1) → xs.size = args.length → (∀ i c, args[i]? = some c → VRel g w c (xs.getD i undef)) →
          (execOp a.eval o).run P w = .ok (.enter f xs) w → o.wpIn (FR rd) n P a w K Q := by
        intro f args xs v h1 hny hc hs' hl hx hr
        subst hs'
        obtain ⟨-, hcl⟩ := hcall.fn f args h v h1 hny hc
        unfold Oper.wpIn
        rw [hsem, hr]
        refine ⟨fun _ _ => trivial, ?_⟩
        rw [Oper.uponIn_enter]
        refine ⟨fun h => by simp [FR, Fence.wide] at h, callsIn_FR ((hcl g w xs hgc s hl hx).mono ?_)⟩
        rintro e w' ⟨x, g', rfl, q1, q2, q3⟩
        refine hK g' w' _ q1 q2 ?_ (defers _)
        rw [hdst]
        exact (r.ext q2 s).put q3 _
      cases hao : ao.op with
      | call f args =>
        rw [hao] at hop hst
        simp only [doOp] at hst
        by_cases hny : f = YLD
        · simp [hny] at hst
        simp only [if_neg hny] at hst
        cases hc : call f (args.map (ev t)) h with
        | none => simp [hc] at hst
        | some p =>
          obtain ⟨v, h1⟩ := p
          simp only [hc, Option.some.injEq] at hst
          obtain ⟨⟨fn, hf, hb, hn⟩, -⟩ := hcall.fn _ _ _ _ _ hny hc
          obtain ⟨callee, xs, ts, ho, hh⟩ := trOp_call hop rfl
          rcases hh with ⟨f', args', rfl, he, hxs⟩ | ⟨f', args', he, -⟩
          · cases he
            obtain ⟨l1, l2⟩ := opds_list r hxs
            refine calls f _ (xs.map a.eval) v h1 hny hc hst.symm l1 l2 ?_
            simp [execOp, ho, resolve, Deferred.ofValue, Act.eval, invoke, run_callFunc hf hb hn]
          · cases he
      | callv f args =>
        rw [hao] at hop hst
        simp only [doOp] at hst
        obtain ⟨callee, xs, ts, ho, hh⟩ := trOp_call hop rfl
        rcases hh with ⟨f', args', -, he, -⟩ | ⟨f', args', he, hcf, hxs⟩
        · cases he
        · cases he
          have hr := r.opd _ _ hcf
          obtain ⟨l1, l2⟩ := opds_list r hxs
          split at hst
          case h_2 => cases hst
          rename_i v h1 hq
          simp only [Option.some.injEq] at hst
          split at hq
          case h_3 => cases hq
          case h_2 =>
            rename_i oo vv hfv
            rw [hfv] at hr
            generalize hX : a.eval callee = X at hr
            cases hr with
            | yld _ _ b hg =>
              obtain ⟨fn, tm, asn, bd, hrun, hround⟩ := hcall.yld oo vv _ h v h1 hq g w (xs.map a.eval) b rd (n - 1) hgc s hg l1 l2
              subst hst
              unfold Oper.wpIn
              have hr2 : (execOp a.eval o).run P w = .ok (.round b fn tm asn bd) w := by
                rw [← hrun]
                simp [execOp, ho, resolve, Deferred.ofValue, hX, invoke]
              rw [hsem, hr2]
              refine ⟨fun _ _ => trivial, ?_⟩
              rw [Oper.uponIn_round]
              refine ⟨fun h => by simp [FR, Fence.wide] at h, hround.mono ?_⟩
              rintro e w' ⟨x, g', rfl, q1, q2, q3⟩
              refine hK g' w' _ q1 q2 ?_ (defers _)
              rw [hdst]
              exact (r.ext q2 s).put q3 _
          rename_i fid us vs hfv
          split at hq
          case isTrue => cases hq
          rename_i hny
          rw [hfv] at hr
          generalize hX : a.eval callee = X at hr
          cases hr with
          | func _ _ _ us' vs' k1 k2 k3 k4 =>
            obtain ⟨⟨fn, hf, hb, hn⟩, -⟩ := hcall.fn _ _ _ _ _ hny hq
            refine calls fid _ (us' ++ xs.map a.eval ++ vs') v h1 hny hq hst.symm (by simp only [Array.size_append, List.length_append, k1, k2, l1]) ?_ ?_
            · intro i c hi
              have e1 : us'.toList.length = us.length := by simpa using k1
              have key : ∀ (l : List V) (zs : Array Value), zs.size = l.length → (∀ i c, l[i]? = some c → VRel g w c (zs.getD i undef)) → ∀ (i : Nat) (c : V), l[i]? = some c → ∃ x, zs[i]? = some x ∧ VRel g w c x := by
                intro l zs hz hr i c hi
                have hlt : i < zs.size := by rcases Nat.lt_or_ge i l.length with h | h; omega; simp [List.getElem?_eq_none h] at hi
                have := hr i c hi
                rw [Array.getD_eq_getD_getElem?, Array.getElem?_eq_getElem hlt, Option.getD_some] at this
                exact ⟨zs[i], by simp [hlt], this⟩
              have app : ∀ (l l' : List V) (zs zs' : Array Value), zs.size = l.length → (∀ (i : Nat) (c : V), l[i]? = some c → ∃ x, zs[i]? = some x ∧ VRel g w c x) → (∀ (i : Nat) (c : V), l'[i]? = some c → ∃ x, zs'[i]? = some x ∧ VRel g w c x) →
                  ∀ (i : Nat) (c : V), (l ++ l')[i]? = some c → ∃ x, (zs ++ zs')[i]? = some x ∧ VRel g w c x := by
                intro l l' zs zs' hz h1 h2 i c hi
                rcases Nat.lt_or_ge i l.length with hlt | hge
                · rw [List.getElem?_append_left hlt] at hi
                  obtain ⟨x, hx, hr⟩ := h1 i c hi
                  exact ⟨x, by rw [Array.getElem?_append_left (by omega)]; exact hx, hr⟩
                · rw [List.getElem?_append_right hge] at hi
                  obtain ⟨x, hx, hr⟩ := h2 _ c hi
                  exact ⟨x, by rw [Array.getElem?_append_right (by omega), hz]; exact hx, hr⟩
              obtain ⟨x, hx, hr⟩ := app _ _ _ _ (by simp only [Array.size_append, List.length_append, k1, l1]) (app _ _ _ _ k1 (key _ _ k1 k3) (key _ _ l1 l2)) (key _ _ k2 k4) i c hi
              rw [Array.getD_eq_getD_getElem?, hx, Option.getD_some]
              exact hr
            · simp [execOp, ho, resolve, Deferred.ofValue, hX, invoke, run_callFunc hf hb hn]
      | _ =>
        rw [hao] at hop hst
        simp only [doOp] at hst
        split at hst
        case h_2 => cases hst
        rename_i v h1 hq
        simp only [Option.some.injEq] at hst
        subst hst
        have fin : PrimGoes P (execOp a.eval o) g h w v h1 → o.wpIn (FR rd) n P a w K Q := by
          rintro ⟨g', w', x, n, hrun, hn, q1, q2, q3⟩
          unfold Oper.wpIn
          rw [hsem, hrun]
          refine ⟨fun _ _ => trivial, ?_⟩
          rcases hn with rfl | ⟨rfl, rfl⟩
          · refine hK g' w' _ q1 q2 ?_ (defers _)
            rw [hdst]
            exact (r.ext q2 s).put q3 _
          · refine hK g' w' _ q1 q2 ?_ (defers _)
            rw [hdst]
            exact (r.ext q2 s).put q3 _
        split at hq
        · rename_i u he
          cases hq
          exact fin (sim_prim (P := P) r.opd (fun _ => rfl) s hop he)
        · rename_i i z u he
          cases hq
          exact fin (sim_prim (P := P) r.opd (fun _ => rfl) s hop he)
        · cases hq

/-! ### A call on the objects that its arguments name -/

theorem objsL_get : ∀ {l : List V} {i : Nat} {c : V}, l[i]? = some c → ∀ o ∈ c.objs, o ∈ V.objsL l
  | [], i, c, h, o, ho => by simp at h
  | v :: l, i, c, h, o, ho => by
    simp only [V.objsL, List.mem_append]
    cases i with
    | zero => simp at h; subst h; exact .inl ho
    | succ i => simp at h; exact .inr (objsL_get h o ho)

theorem objs_cells {e : V} {j : Nat} {x : V} (h : e.cells[j]? = some x) : ∀ o ∈ x.objs, o ∈ e.objs := by
  intro o ho
  have one : [e][j]? = some x → o ∈ e.objs := fun h => by
    cases j with
    | zero => simp at h; subst h; exact ho
    | succ j => simp at h
  cases e with
  | agg cs => exact objsL_get (l := cs) (by simpa [V.cells] using h) o ho
  | _ => exact one h

theorem VRel.dom {g g' : G} {w : World} (hi : ∀ b, g.imm b → g'.imm b) {v : V} {x : Value} (h : VRel g w v x) : (∀ o ∈ v.objs, ∀ t b, g.loc o t = some b → g'.loc o t = some b) → VRel g' w v x := by
  induction h with
  | junk x => exact fun _ => .junk x
  | bool b => exact fun _ => .bool b
  | int k n => exact fun _ => .int k n
  | str s => exact fun _ => .str s
  | nilp => exact fun _ => .nilp
  | ptr o t off b base h => exact fun hd => .ptr o t off b base (hd o (by simp [V.objs]) _ _ h)
  | iptr cs off b base f h1 hc hv ih => exact fun hd => .iptr cs off b base f (hi _ h1) hc (fun j c hj => ih j c hj (fun o ho => hd o (by simp only [V.objs]; exact objsL_get hj o ho)))
  | nils => exact fun _ => .nils
  | view o t off len s cap b base c n e h hl hk hs hn => exact fun hd => .view o t off len s cap b base c n e (hd o (by simp [V.objs]) _ _ h) hl hk hs hn
  | vend o t s b base x c n e h hs hn => exact fun hd => .vend o t s b base x c n e (hd o (by simp [V.objs]) _ _ h) hs hn
  | sl L s cap b off c f h1 hl hk hz hc hv ih =>
    exact fun hd => .sl L s cap b off c f (fun h => hi _ (h1 h)) hl hk hz hc (fun i e j x he hx => ih i e j x he hx (fun o ho => hd o (by simp only [V.objs]; exact objsL_get he o (objs_cells hx o ho))))
  | sl0 s cap a hk => exact fun _ => .sl0 s cap a hk
  | nilm => exact fun _ => .nilm
  | map o t b h => exact fun hd => .map o t b (hd o (by simp [V.objs]) _ _ h)
  | nilf => exact fun _ => .nilf
  | func f xs ys xs' ys' hx hy h1 h2 i1 i2 =>
    exact fun hd => .func f xs ys xs' ys' hx hy (fun i x hi => i1 i x hi (fun o ho => hd o (by simp only [V.objs, List.mem_append]; exact .inl (objsL_get hi o ho))))
      (fun i x hi => i2 i x hi (fun o ho => hd o (by simp only [V.objs, List.mem_append]; exact .inr (objsL_get hi o ho))))
  | yld o t b h => exact fun hd => .yld o t b (hd o (by simp [V.objs]) _ _ h)
  | nili => exact fun _ => .nili
  | iface t v x h ih => exact fun hd => .iface t v x (ih (fun o ho => hd o (by simpa [V.objs] using ho)))
  | agg cs xs hx h ih => exact fun hd => .agg cs xs hx (fun i c hc => ih i c hc (fun o ho => hd o (by simp only [V.objs]; exact objsL_get hc o ho)))
  | tup cs xs hx h ih => exact fun hd => .tup cs xs hx (fun i c hc => ih i c hc (fun o ho => hd o (by simp only [V.objs]; exact objsL_get hc o ho)))

theorem Lies.dom {g g' : G} {w : World} (hi : ∀ b, g.imm b → g'.imm b) {b base : Nat} {cs : List V} (h : Lies g w b base cs) (hd : ∀ o ∈ V.objsL cs, ∀ t b, g.loc o t = some b → g'.loc o t = some b) : Lies g' w b base cs := by
  intro i c hc
  obtain ⟨x, h1, h2⟩ := h i c hc
  exact ⟨x, h1, h2.dom hi (fun o ho => hd o (objsL_get hc o ho))⟩

theorem BdRel.dom {g g' : G} {w : World} (hc : g'.code = g.code) (hi : ∀ b, g.imm b → g'.imm b) {b base : Nat} {x : Bd} (h : BdRel g w b base x) (hd : ∀ o ∈ x.objs, ∀ t b, g.loc o t = some b → g'.loc o t = some b) : BdRel g' w b base x := by
  cases x with
  | dead => trivial
  | var cs => exact ⟨h.1, h.2.1, h.2.2.dom hi hd⟩
  | arr cs => exact ⟨h.1, h.2.1, h.2.2.dom hi hd⟩
  | loop st pend t fb f k =>
    obtain ⟨h0, rec, h1, h2, h3, h4, h5, h6⟩ := h
    exact ⟨h0, rec, h1, h2, h3, by rw [hc]; exact h4, h5, fun i v hv => (h6 i v hv).dom hi (fun o ho => hd o (objsL_get hv o ho))⟩
  | map es clock =>
    obtain ⟨h0, es', h1, h2, h3⟩ := h
    refine ⟨h0, es', h1, h2, fun i k v n hk => ?_⟩
    obtain ⟨e, q1, q2, q3, q4⟩ := h3 i k v n hk
    have hm : (k, v, n) ∈ es := List.mem_of_getElem? hk
    exact ⟨e, q1, q2.dom hi (fun o ho => hd o (List.mem_flatMap.2 ⟨_, hm, by simp [ho]⟩)), q3.dom hi (fun o ho => hd o (List.mem_flatMap.2 ⟨_, hm, by simp [ho]⟩)), q4⟩

theorem closedIn_spec {R : List Nat} {n : Nat} {h1 : Heap} (hc : closedIn R n h1 = true) {o : Nat} {x : Ob} (hx : h1[o]? = some x) (ho : inside R n o = true) : ∀ i ∈ x.bd.objs, inside R n i = true := by
  have hm : (x, o) ∈ h1.zipIdx := by
    rw [List.mem_iff_getElem?]
    refine ⟨o, ?_⟩
    simp [List.getElem?_zipIdx, hx]
  have := List.all_eq_true.1 hc (x, o) hm
  simp only [ho, Bool.not_true, Bool.false_or] at this
  exact fun i hi => List.all_eq_true.1 this i hi

theorem frameC_ok {pureF : FuncId → FMode} {call : Caller} (hcall : CallOk P call) : CallOk P (frameC pureF call) := by
  refine ⟨?_, fun o ver args h v k hc => ?_⟩
  case refine_2 =>
    refine hcall.yld o ver args h v k ?_
    unfold frameC at hc
    rw [if_pos rfl] at hc
    split at hc
    · split at hc
      · rename_i e _; cases hc; exact e
      · cases hc
    · cases hc
  intro f args h v k hny hc
  have hc' : (match closedIn (V.objsL args) h.length (keepOnly (V.objsL args) h), call f args (keepOnly (V.objsL args) h) with
      | true, some (v, h1) => if h.length ≤ h1.length && v.objs.all (inside (V.objsL args) h.length) && closedIn (V.objsL args) h.length h1 then some (v, mergeH (V.objsL args) h h1) else none
      | _, _ => none) = some (v, k) ∨ call f args h = some (v, k) := by
    unfold frameC at hc
    rw [if_neg hny] at hc
    cases hm : pureF f <;> simp only [hm] at hc
    · exact .inr hc
    · exact .inl hc
    · exact .inl hc
    · split at hc
      · exact .inr hc
      · cases hc
  clear hc
  rcases hc' with hc | hc
  case inr => exact hcall.fn f args h v k hny hc
  split at hc
  case h_2 => cases hc
  rename_i v1 h1 e1 e2
  split at hc
  case isFalse => cases hc
  rename_i hok
  cases hc
  simp only [Bool.and_eq_true, decide_eq_true_eq] at hok
  obtain ⟨⟨hle, hv⟩, hcl⟩ := hok
  obtain ⟨q1, q2⟩ := hcall.fn f args _ v h1 hny e2
  refine ⟨q1, fun g w xs hgc s hl hx => ?_⟩
  generalize hRdef : V.objsL args = R at *
  have kget : ∀ (o : Nat) (x : Ob), (keepOnly R h)[o]? = some x → x.bd.lives = true → o ∈ R ∧ h[o]? = some x := by
    intro o x hx hlv
    rw [keepOnly_get] at hx
    simp only [Option.map_eq_some_iff] at hx
    obtain ⟨y, hy, hx⟩ := hx
    by_cases hR : o ∈ R
    · simp [hR] at hx; subst hx; exact ⟨hR, hy⟩
    · simp [hR] at hx; subst hx; cases hlv
  have kget' : ∀ (o : Nat), o ∈ R → (keepOnly R h)[o]? = h[o]? := by
    intro o hR
    rw [keepOnly_get]
    cases h[o]? <;> simp [hR]
  let g1 : G := ⟨fun o t => if o ∈ R then g.loc o t else none, g.imm, g.code⟩
  have g1loc : ∀ o t b, g1.loc o t = some b → o ∈ R ∧ g.loc o t = some b := by
    intro o t b hb
    simp only [g1] at hb
    split at hb
    · rename_i hR; exact ⟨hR, hb⟩
    · cases hb
  have g1of : ∀ o, o ∈ R → ∀ t b, g.loc o t = some b → g1.loc o t = some b := by
    intro o hR t b hb
    simp only [g1, if_pos hR]; exact hb
  have insR : ∀ o, inside R h.length o = true → o < h.length → o ∈ R := by
    intro o ho hlt
    simp only [inside, Bool.or_eq_true, List.contains_iff_mem, decide_eq_true_eq] at ho
    rcases ho with ho | ho
    · exact ho
    · omega
  have blk1 : ∀ o b, blk g1 (keepOnly R h) o = some b → o ∈ R ∧ blk g h o = some b := by
    intro o b hb
    obtain ⟨x, base, hx, hlv, hg⟩ := blk_some hb
    obtain ⟨hR, hx'⟩ := kget o x hx hlv
    exact ⟨hR, blk_of hx' hlv (g1loc _ _ _ hg).2⟩
  have s1 : Sim g1 (keepOnly R h) w := by
    refine ⟨fun o x hx hlv => ?_, fun o o' b h1 h2 => s.inj o o' b (blk1 _ _ h1).2 (blk1 _ _ h2).2, fun o b hb => s.imm o b (blk1 _ _ hb).2, s.immlt, fun o t b hg => ?_⟩
    · obtain ⟨hR, hx'⟩ := kget o x hx hlv
      obtain ⟨b, base, r1, r2, r3⟩ := s.obs o x hx' hlv
      refine ⟨b, base, g1of o hR _ _ r1, r2, BdRel.dom (g := g) (g' := g1) rfl (fun _ h => h) r3 (fun i hi t b hb => ?_)⟩
      have hin := closedIn_spec e1 hx (by simp [inside, hR]) i hi
      rcases Nat.lt_or_ge i h.length with hlt | hge
      · exact g1of i (insR i hin hlt) _ _ hb
      · obtain ⟨y, hy, -⟩ := s.loclt i t b hb
        rw [List.getElem?_eq_none hge] at hy
        cases hy
    · obtain ⟨hR, hg'⟩ := g1loc _ _ _ hg
      obtain ⟨x, hx, ht⟩ := s.loclt o t b hg'
      exact ⟨x, by rw [kget' o hR]; exact hx, ht⟩
  have hx1 : ∀ i c, args[i]? = some c → VRel g1 w c (xs.getD i undef) := fun i c hi => VRel.dom (g := g) (g' := g1) (fun _ h => h) (hx i c hi) (fun o ho => g1of o (hRdef ▸ objsL_get hi o ho))
  refine (q2 g1 w xs hgc s1 hl hx1).mono ?_
  rintro e w1 ⟨x, g2, rfl, s2, x2, r2⟩
  let g3 : G := ⟨fun o t => if inside R h.length o then g2.loc o t else g.loc o t, g2.imm, g.code⟩
  have g3in : ∀ o, inside R h.length o = true → ∀ t b, g2.loc o t = some b → g3.loc o t = some b := by
    intro o ho t b hb
    simp only [g3, if_pos ho]; exact hb
  have hmono : ∀ o t b, g.loc o t = some b → g3.loc o t = some b := by
    intro o t b hb
    by_cases ho : inside R h.length o = true
    · rcases Nat.lt_or_ge o h.length with hlt | hge
      · exact g3in o ho _ _ (x2.loc _ _ _ (g1of o (insR o ho hlt) _ _ hb))
      · obtain ⟨y, hy, -⟩ := s.loclt o t b hb
        rw [List.getElem?_eq_none hge] at hy
        cases hy
    · simp only [g3, if_neg ho]; exact hb
  have hL : Later g w g3 w1 := ⟨rfl, hmono, fun b hb => x2.imm b hb, fun b hb => x2.frame b (s.immlt b hb) (fun o ho => s.imm o b (blk1 _ _ ho).2 hb), x2.shape⟩
  have mget : ∀ (o : Nat) (x : Ob), (mergeH R h h1)[o]? = some x → (inside R h.length o = true ∧ h1[o]? = some x) ∨ (inside R h.length o = false ∧ h[o]? = some x) := by
    intro o x hx
    rw [mergeH_get] at hx
    simp only [Option.map_eq_some_iff] at hx
    obtain ⟨y, hy, hx⟩ := hx
    cases ho : inside R h.length o with
    | true => simp [ho] at hx; subst hx; exact .inl ⟨rfl, hy⟩
    | false =>
      simp [ho] at hx
      have hlt : o < h.length := by
        simp only [inside, Bool.or_eq_false_iff, decide_eq_false_iff_not] at ho
        omega
      rw [List.getElem?_eq_getElem hlt] at hx ⊢
      exact .inr ⟨rfl, by simpa using hx⟩
  have mblk : ∀ o b, blk g3 (mergeH R h h1) o = some b → (inside R h.length o = true ∧ blk g2 h1 o = some b) ∨ (inside R h.length o = false ∧ blk g h o = some b) := by
    intro o b hb
    obtain ⟨x, base, hx, hlv, hg⟩ := blk_some hb
    rcases mget o x hx with ⟨ho, hx'⟩ | ⟨ho, hx'⟩
    · simp only [g3, if_pos ho] at hg
      exact .inl ⟨ho, blk_of hx' hlv hg⟩
    · simp only [g3, ho] at hg
      exact .inr ⟨ho, blk_of hx' hlv hg⟩
  have blt : ∀ o b, blk g h o = some b → b < w.heap.size := by
    intro o b hb
    obtain ⟨x, base, hx, hlv, hg⟩ := blk_some hb
    obtain ⟨b', base', hg', hlt, -⟩ := s.obs o x hx hlv
    rw [hg] at hg'
    cases hg'
    exact hlt
  have clash : ∀ o o' b, inside R h.length o = false → blk g h o = some b → blk g2 h1 o' = some b → False := by
    intro o o' b ho hb hb'
    obtain ⟨o2, h2⟩ := x2.own o' b hb' (blt o b hb)
    obtain ⟨hR, hb2⟩ := blk1 _ _ h2
    have := s.inj o o2 b hb hb2
    subst this
    simp [inside, hR] at ho
  have s3 : Sim g3 (mergeH R h h1) w1 := by
    refine ⟨fun o x hx hlv => ?_, fun o o' b hb hb' => ?_, fun o b hb hi => ?_, s2.immlt, fun o t b hg => ?_⟩
    · rcases mget o x hx with ⟨ho, hx'⟩ | ⟨ho, hx'⟩
      · obtain ⟨b, base, p1, p2, p3⟩ := s2.obs o x hx' hlv
        exact ⟨b, base, g3in o ho _ _ p1, p2, BdRel.dom (g := g2) (g' := g3) x2.code.symm (fun _ h => h) p3 (fun i hi t b hb => g3in i (closedIn_spec hcl hx' ho i hi) t b hb)⟩
      · obtain ⟨b, base, p1, p2, p3⟩ := s.obs o x hx' hlv
        refine ⟨b, base, hmono _ _ _ p1, Nat.lt_of_lt_of_le p2 x2.size, p3.later hL (x2.frame b p2 (fun o' ho' => ?_))⟩
        obtain ⟨hR, hb'⟩ := blk1 _ _ ho'
        have := s.inj o o' b (blk_of hx' hlv p1) hb'
        subst this
        simp [inside, hR] at ho
    · rcases mblk o b hb with ⟨ho, hb1⟩ | ⟨ho, hb1⟩ <;> rcases mblk o' b hb' with ⟨ho', hb2⟩ | ⟨ho', hb2⟩
      · exact s2.inj _ _ _ hb1 hb2
      · exact (clash o' o b ho' hb2 hb1).elim
      · exact (clash o o' b ho hb1 hb2).elim
      · exact s.inj _ _ _ hb1 hb2
    · rcases mblk o b hb with ⟨ho, hb1⟩ | ⟨ho, hb1⟩
      · exact s2.imm o b hb1 hi
      · rcases x2.imm' b hi with h' | h'
        · exact s.imm o b hb1 h'
        · have := blt o b hb1; omega
    · by_cases ho : inside R h.length o = true
      · simp only [g3, if_pos ho] at hg
        obtain ⟨x, hx, ht⟩ := s2.loclt o t b hg
        exact ⟨x, by rw [mergeH_get, hx]; simp [ho], ht⟩
      · simp only [g3, if_neg ho] at hg
        obtain ⟨x, hx, ht⟩ := s.loclt o t b hg
        have hlt : o < h.length := by
          rcases Nat.lt_or_ge o h.length with h' | h'
          · exact h'
          · rw [List.getElem?_eq_none h'] at hx; cases hx
        refine ⟨x, ?_, ht⟩
        rw [mergeH_get, List.getElem?_eq_getElem (show o < h1.length by omega)]
        simp [ho, List.getD_eq_getElem?_getD, hx]
  refine ⟨x, g3, rfl, s3, ⟨rfl, hmono, fun b hb => x2.imm b hb, x2.imm', x2.size, x2.shape, fun b hb hno => x2.frame b hb (fun o ho => hno o (blk1 _ _ ho).2), fun o b hb hlt => ?_, x2.os, x2.tape, x2.output⟩,
    VRel.dom (g := g2) (g' := g3) (fun _ h => h) r2 (fun o ho t b hb => g3in o (List.all_eq_true.1 hv o ho) t b hb)⟩
  rcases mblk o b hb with ⟨ho, hb1⟩ | ⟨ho, hb1⟩
  · obtain ⟨o2, h2⟩ := x2.own o b hb1 hlt
    exact ⟨o2, (blk1 _ _ h2).2⟩
  · exact ⟨o, hb1⟩

end Go.Am
