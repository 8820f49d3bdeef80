/- A region whose order is open: whatever order its edges allow, the abstract machine comes to the same. -/
import Derived.Test.YtifbkofianklaaaAm16
import Derived.Still
set_option linter.unusedVariables false
set_option linter.unusedSimpArgs false
namespace Go.Am

def AOp.opds : AOp → List Opd
  | .move x | .box _ x | .nilck x | .eqnil _ _ x | .un _ x | .cint _ x | .cstr x | .b2s x | .s2b _ x | .mkiface _ x | .faddr _ x | .field _ _ x | .extract x _ | .lenS x | .lenStr x | .load _ x | .clearS _ _ x | .mark x => [x]
  | .pick a b c => [a, b, c]
  | .allocz .. | .lenK _ => []
  | .build _ ps | .bslice _ _ _ ps | .bnew _ _ _ _ ps => ps.map (·.2.2)
  | .store _ a x | .bin _ a x | .eqc _ _ _ a x | .iaddrA _ _ a x | .iaddrS _ a x | .indexA _ _ _ a x | .indexStr a x | .append _ _ _ a x | .copy _ a x | .mkslice _ _ _ _ a x => [a, x]
  | .mkfunc _ xs ys => xs ++ ys
  | .slA _ _ x a b c | .slS _ x a b c => x :: (a.toList ++ b.toList ++ c.toList)
  | .slStr x a b => x :: (a.toList ++ b.toList)
  | .call _ xs | .minmax _ xs => xs
  | .callv f xs => f :: xs

def tmpsOf (xs : List Opd) : List Nat := xs.filterMap fun | .tmp t => some t | .cst _ => none

def AOper.looks (o : AOper) : List Nat := tmpsOf o.op.opds ++ (match o.guard with | some (g, _) => [g] | none => [])

def apartA (x y : AOper) : Bool :=
  (match x.dst with | some d => !y.looks.contains d && y.dst != some d | none => true) && (match y.dst with | some d => !x.looks.contains d | none => true)

theorem map_opt {a : Option Opd} {ρ ρ' : Opd → V} (h : ∀ x ∈ a.toList, ρ x = ρ' x) : a.map ρ = a.map ρ' := by
  cases a with
  | none => rfl
  | some x => simp [h x (by simp)]

theorem map_parts {ps : List (Nat × Nat × Opd)} {ρ ρ' : Opd → V} (h : ∀ x ∈ ps.map (·.2.2), ρ x = ρ' x) : (ps.map fun (o, n, x) => (o, n, ρ x)) = ps.map fun (o, n, x) => (o, n, ρ' x) :=
  List.map_congr_left fun p hp => by
    obtain ⟨a, b, c⟩ := p
    simp only [h c (List.mem_map.2 ⟨_, hp, rfl⟩)]

theorem prim_congr {fb : Nat} {ρ ρ' : Opd → V} {get : Nat → Option Ob} {op : AOp} (h : ∀ x ∈ op.opds, ρ x = ρ' x) : prim fb ρ get op = prim fb ρ' get op := by
  cases op <;> simp only [AOp.opds, List.mem_cons, List.not_mem_nil, or_false, forall_eq_or_imp, forall_eq] at h
  case eqc neg ag ks x y => cases ag <;> simp only [prim, h]
  case build z ps => simp only [prim, map_parts h]
  case bslice z l s ps => simp only [prim, map_parts h]
  case bnew o z l s ps => simp only [prim, map_parts h]
  case minmax mx xs =>
    simp only [prim]
    rw [List.map_congr_left fun x hx => h x hx]
  case mkfunc f xs ys =>
    simp only [prim]
    rw [List.map_congr_left fun x hx => h x (by simp [hx]), List.map_congr_left fun x hx => h x (by simp [hx])]
  case slA n s x lo hi mx =>
    simp only [prim]
    rw [h.1, map_opt (a := lo) fun x hx => h.2 x (by simp [hx]), map_opt (a := hi) fun x hx => h.2 x (by simp [hx]), map_opt (a := mx) fun x hx => h.2 x (by simp [hx])]
  case slS s x lo hi mx =>
    simp only [prim]
    rw [h.1, map_opt (a := lo) fun x hx => h.2 x (by simp [hx]), map_opt (a := hi) fun x hx => h.2 x (by simp [hx]), map_opt (a := mx) fun x hx => h.2 x (by simp [hx])]
  case slStr x lo hi =>
    simp only [prim]
    rw [h.1, map_opt (a := lo) fun x hx => h.2 x (by simp [hx]), map_opt (a := hi) fun x hx => h.2 x (by simp [hx])]
  all_goals simp only [prim, h]

theorem doOp_congr {call : Caller} {fb : Nat} {ρ ρ' : Opd → V} {h : Heap} {op : AOp} (hx : ∀ x ∈ op.opds, ρ x = ρ' x) : doOp call fb op ρ h = doOp call fb op ρ' h := by
  cases op with
  | call f args =>
    have : args.map ρ = args.map ρ' := List.map_congr_left fun x hx' => hx x hx'
    simp only [doOp, this]
  | callv f args =>
    have e1 := hx f (by simp [AOp.opds])
    have e2 : args.map ρ = args.map ρ' := List.map_congr_left fun x hx' => hx x (by simp [AOp.opds, hx'])
    simp only [doOp, e1, e2]
  | _ => simp only [doOp, prim_congr hx]

theorem fpOf_congr {pureF : FuncId → FMode} {fb : Nat} {ρ ρ' : Opd → V} {op : AOp} (h : ∀ x ∈ op.opds, ρ x = ρ' x) : fpOf pureF fb ρ op = fpOf pureF fb ρ' op := by
  cases op
  case call f args =>
    have : args.map ρ = args.map ρ' := List.map_congr_left fun x hx' => h x hx'
    simp only [fpOf, this]
  case callv f args =>
    have h1 : ρ f = ρ' f := h f (by simp [AOp.opds])
    have h2 : args.map ρ = args.map ρ' := List.map_congr_left fun x hx' => h x (by simp [AOp.opds, hx'])
    simp only [fpOf, h1, h2]
  all_goals simp only [AOp.opds, List.mem_cons, List.not_mem_nil, or_false, forall_eq_or_imp, forall_eq] at h <;> simp only [fpOf, h]

theorem ev_put {t : List V} {dst : Option Nat} {v : V} {x : Opd} (h : ∀ d, dst = some d → x ≠ .tmp d) : ev (put t dst v) x = ev t x := by
  cases dst with
  | none => rfl
  | some d =>
    cases x with
    | cst c => rfl
    | tmp i =>
      have : d ≠ i := fun e => h d rfl (by rw [e])
      simp only [ev, put, List.getD_eq_getElem?_getD, List.getElem?_set_ne this]

theorem wanted_put' {t : List V} {dst : Option Nat} {v : V} {o : AOper} (h : ∀ d, dst = some d → d ∉ o.looks) : wanted o (put t dst v) = wanted o t := by
  unfold wanted
  cases hg : o.guard with
  | none => rfl
  | some gw =>
    obtain ⟨g, want⟩ := gw
    simp only
    cases dst with
    | none => rfl
    | some d =>
      have : d ≠ g := fun e => h d rfl (by simp [AOper.looks, hg, e])
      simp only [put, List.getD_eq_getElem?_getD, List.getElem?_set_ne this]

theorem opds_put {t : List V} {dst : Option Nat} {v : V} {o : AOper} (h : ∀ d, dst = some d → d ∉ o.looks) : ∀ x ∈ o.op.opds, ev (put t dst v) x = ev t x := by
  intro x hx
  refine ev_put fun d hd e => h d hd ?_
  simp only [AOper.looks, tmpsOf, List.mem_append, List.mem_filterMap]
  exact .inl ⟨x, hx, by rw [e]⟩

/-- What an operation yields, and the memory behind it. -/
def resOp (call : Caller) (fb : Nat) (o : AOper) (t : List V) (h : Heap) : Option (V × Heap) :=
  match wanted o t with
  | none => none
  | some false => some (.tup [], h)
  | some true => doOp call fb o.op (ev t) h

theorem stepOp_eq (call : Caller) (fb : Nat) (o : AOper) (t : List V) (h : Heap) : stepOp call fb o t h = (resOp call fb o t h).map fun p => (put t o.dst p.1, p.2) := by
  unfold stepOp resOp
  cases wanted o t with
  | none => rfl
  | some b =>
    cases b
    · rfl
    · simp only
      cases doOp call fb o.op (ev t) h with
      | none => rfl
      | some p => rfl

theorem resOp_put {call : Caller} {fb : Nat} {o : AOper} {t : List V} {h : Heap} {dst : Option Nat} {v : V} (hd : ∀ d, dst = some d → d ∉ o.looks) : resOp call fb o (put t dst v) h = resOp call fb o t h := by
  unfold resOp
  rw [wanted_put' hd]
  cases wanted o t with
  | none => rfl
  | some b =>
    cases b
    · rfl
    · exact doOp_congr (opds_put hd)

theorem fpAt_put {pureF : FuncId → FMode} {fb : Nat} {o : AOper} {t : List V} {dst : Option Nat} {v : V} (hd : ∀ d, dst = some d → d ∉ o.looks) : fpAt pureF fb o (put t dst v) = fpAt pureF fb o t := by
  unfold fpAt
  rw [wanted_put' hd]
  cases wanted o t with
  | none => rfl
  | some b =>
    cases b
    · rfl
    · exact fpOf_congr (opds_put hd)

/-- A pure function's call hangs on its arguments alone; a looking one's on what they name, too. -/
structure PureOk (pureF : FuncId → FMode) (call : Caller) : Prop where
  pure : ∀ f args h v h1, f ≠ YLD → pureF f = .pure → call f args h = some (v, h1) → h1 = h ∧ ∀ h', call f args h' = some (v, h')
  look : ∀ f args h v h1, f ≠ YLD → pureF f = .look → call f args h = some (v, h1) → h1 = h ∧ (flatIn (V.objsL args) h = true → ∀ h', Agree (V.objsL args) (fun o => h[o]?) (fun o => h'[o]?) → call f args h' = some (v, h'))

/-- The same, whatever the objects hold. -/
def LookOk (pureF : FuncId → FMode) (call : Caller) : Prop := ∀ f args h v h1, f ≠ YLD → pureF f = .look → call f args h = some (v, h1) → ∀ h', Agree (V.objsL args) (fun o => h[o]?) (fun o => h'[o]?) → call f args h' = some (v, h')

theorem resOp_local {pureF : FuncId → FMode} {call : Caller} (hp : PureOk pureF call) (hk : LookOk pureF call) {fb : Nat} {o : AOper} {t : List V} {h : Heap} {v : V} {h1 : Heap} {r w : List Nat} (hf : fpAt pureF fb o t = .io r w) (hr : resOp call fb o t h = some (v, h1)) :
    (h1 = h ∧ ∀ h', Agree (r ++ w) (fun o => h[o]?) (fun o => h'[o]?) → resOp call fb o t h' = some (v, h')) ∨
    (∃ i x, i ∈ w ∧ h1 = h.set i x ∧ ∀ h', Agree (r ++ w) (fun o => h[o]?) (fun o => h'[o]?) → resOp call fb o t h' = some (v, h'.set i x)) := by
  unfold resOp at hr ⊢
  unfold fpAt at hf
  cases hw : wanted o t with
  | none => simp [hw] at hr
  | some b =>
    cases b with
    | false =>
      simp only [hw, Option.some.injEq, Prod.mk.injEq] at hr
      obtain ⟨rfl, rfl⟩ := hr
      exact .inl ⟨rfl, fun h' _ => rfl⟩
    | true =>
      simp only [hw] at hr hf ⊢
      have plain : ∀ (op : AOp), (∀ h, doOp call fb op (ev t) h = match prim fb (ev t) (fun o => h[o]?) op with | some (.ret v) => some (v, h) | some (.set o x v) => some (v, h.set o x) | none => none) → fpOf pureF fb (ev t) op = .io r w → doOp call fb op (ev t) h = some (v, h1) →
          (h1 = h ∧ ∀ h' : Heap, Agree (r ++ w) (fun o => h[o]?) (fun o => h'[o]?) → doOp call fb op (ev t) h' = some (v, h')) ∨
          (∃ i x, i ∈ w ∧ h1 = h.set i x ∧ ∀ h' : Heap, Agree (r ++ w) (fun o => h[o]?) (fun o => h'[o]?) → doOp call fb op (ev t) h' = some (v, h'.set i x)) := by
        intro op hd hf hr
        rw [hd] at hr
        have loc : ∀ h' : Heap, Agree (r ++ w) (fun o => h[o]?) (fun o => h'[o]?) → prim fb (ev t) (fun o => h[o]?) op = prim fb (ev t) (fun o => h'[o]?) op := fun h' ha =>
          prim_local hf (fun o ho => ha o (by simp [ho])) (fun o ho => ha o (by simp [ho]))
        cases hq : prim fb (ev t) (fun o => h[o]?) op with
        | none => simp [hq] at hr
        | some e =>
          cases e with
          | ret u =>
            simp only [hq, Option.some.injEq, Prod.mk.injEq] at hr
            obtain ⟨rfl, rfl⟩ := hr
            exact .inl ⟨rfl, fun h' ha => by rw [hd, ← loc h' ha, hq]⟩
          | set i x u =>
            simp only [hq, Option.some.injEq, Prod.mk.injEq] at hr
            obtain ⟨rfl, rfl⟩ := hr
            exact .inr ⟨i, x, prim_set hf hq, rfl, fun h' ha => by rw [hd, ← loc h' ha, hq]⟩
      have calls : ∀ f args, f ≠ YLD → fpCall (pureF f) (V.objsL args) = .io r w → call f args h = some (v, h1) →
          (h1 = h ∧ ∀ h' : Heap, Agree (r ++ w) (fun o => h[o]?) (fun o => h'[o]?) → call f args h' = some (v, h')) := by
        intro f args hny hf hr
        unfold fpCall at hf
        split at hf
        · rename_i hm
          obtain ⟨e1, e2⟩ := hp.pure f _ _ _ _ hny hm hr
          exact ⟨e1, fun h' _ => e2 h'⟩
        · rename_i hm
          cases hf
          exact ⟨(hp.look f _ _ _ _ hny hm hr).1, fun h' ha => hk f _ _ _ _ hny hm hr h' (fun o ho => ha o (by simp [ho]))⟩
        · cases hf
      cases hop : o.op with
      | call f args =>
        simp only [hop, fpOf] at hf
        simp only [hop, doOp] at hr ⊢
        by_cases hny : f = YLD
        · rw [if_pos hny] at hr; cases hr
        · rw [if_neg hny] at hr
          simp only [if_neg hny]
          exact .inl (calls f _ hny hf hr)
      | callv f args =>
        simp only [hop, fpOf] at hf
        simp only [hop, doOp] at hr ⊢
        cases hv : ev t f <;> simp only [hv] at hf hr ⊢ <;> first | (cases hf; done) | skip
        rename_i g xs ys
        by_cases hny : g = YLD
        · rw [if_pos hny] at hr; cases hr
        · rw [if_neg hny] at hr
          simp only [if_neg hny]
          exact .inl (calls _ _ hny hf hr)
      | _ =>
        rw [hop] at hf hr
        exact plain _ (fun h => rfl) hf hr

theorem disj_spec {a b : List Nat} (h : disj a b = true) : ∀ o ∈ a, o ∉ b := by
  intro o ho hb
  have := List.all_eq_true.1 h o ho
  simp [hb] at this

theorem apartA_spec {x y : AOper} (h : apartA x y = true) : (∀ d, x.dst = some d → d ∉ y.looks) ∧ (∀ d, x.dst = some d → y.dst ≠ some d) ∧ (∀ d, y.dst = some d → d ∉ x.looks) := by
  refine ⟨fun d hd => ?_, fun d hd => ?_, fun d hd => ?_⟩ <;> simp [apartA, hd] at h
  · exact h.1.1
  · exact h.1.2
  · exact h.2

theorem put_comm {t : List V} {a b : Option Nat} {u v : V} (h : ∀ d, a = some d → b ≠ some d) : put (put t a u) b v = put (put t b v) a u := by
  cases a with
  | none => rfl
  | some d =>
    cases b with
    | none => rfl
    | some e =>
      have : d ≠ e := fun q => h d rfl (by rw [q])
      simp only [put]
      rw [List.set_comm _ _ this]

theorem agree_set {l : List Nat} {h : Heap} {o : Nat} {x : Ob} (ho : o ∉ l) : Agree l (fun i => h[i]?) (fun i => (h.set o x)[i]?) := by
  intro i hi
  have : o ≠ i := fun e => ho (e ▸ hi)
  simp only [List.getElem?_set_ne this]

theorem agree_set' {l : List Nat} {h : Heap} {o : Nat} {x : Ob} (ho : o ∉ l) : Agree l (fun i => (h.set o x)[i]?) (fun i => h[i]?) := fun i hi => (agree_set ho i hi).symm

theorem keepOnly_get (R : List Nat) (h : Heap) (o : Nat) : (keepOnly R h)[o]? = (h[o]?).map fun x => if R.contains o then x else ⟨0, .dead⟩ := by
  simp [keepOnly, List.getElem?_mapIdx]

theorem keepOnly_length (R : List Nat) (h : Heap) : (keepOnly R h).length = h.length := by simp [keepOnly]

theorem mergeH_get (R : List Nat) (h h1 : Heap) (o : Nat) : (mergeH R h h1)[o]? = (h1[o]?).map fun x => if inside R h.length o then x else h.getD o x := by
  simp [mergeH, List.getElem?_mapIdx]

theorem mergeH_length (R : List Nat) (h h1 : Heap) : (mergeH R h h1).length = h1.length := by simp [mergeH]

theorem keepOnly_set {R : List Nat} {h : Heap} {i : Nat} {z : Ob} (hi : i ∉ R) : keepOnly R (h.set i z) = keepOnly R h := by
  apply List.ext_getElem?
  intro o
  rw [keepOnly_get, keepOnly_get]
  by_cases ho : i = o
  · subst ho
    have hc : R.contains i = false := by simpa using hi
    rcases Nat.lt_or_ge i h.length with hl | hl
    · rw [List.getElem?_set_self hl, List.getElem?_eq_getElem hl]
      simp [hi]
    · rw [List.getElem?_eq_none (by simpa using hl), List.getElem?_eq_none hl]
  · rw [List.getElem?_set_ne ho]

theorem mergeH_set {R : List Nat} {h h1 : Heap} {i : Nat} {z : Ob} (hi : i ∉ R) (hl : i < h.length) (hle : h.length ≤ h1.length) : mergeH R (h.set i z) h1 = (mergeH R h h1).set i z := by
  apply List.ext_getElem?
  intro o
  rw [mergeH_get, List.length_set]
  by_cases ho : i = o
  · subst ho
    have hc : inside R h.length i = false := by simp [inside, hi, hl]
    rw [List.getElem?_set_self (by rw [mergeH_length]; omega), List.getElem?_eq_getElem (by omega)]
    simp [hc, List.getD_eq_getElem?_getD, hl]
  · rw [List.getElem?_set_ne ho, mergeH_get]
    simp only [List.getD_eq_getElem?_getD, List.getElem?_set_ne ho]

theorem mergeH_agree {R l : List Nat} {h h1 : Heap} {n : Nat} (hd : ∀ o ∈ l, o ∉ R) (hn : ∀ o ∈ l, o < n) (hnl : n ≤ h.length) (hle : h.length ≤ h1.length) : Agree l (fun o => (mergeH R h h1)[o]?) (fun o => h[o]?) := by
  intro o ho
  have h1' := hd o ho
  have h2' := hn o ho
  have hc : inside R h.length o = false := by simp [inside, h1']; omega
  simp only
  rw [mergeH_get, List.getElem?_eq_getElem (by omega), List.getElem?_eq_getElem (show o < h.length by omega)]
  simp [hc, List.getD_eq_getElem?_getD, show o < h.length by omega]

/-- A caller whose calls hang on the objects that are named to it alone, and touch no others. -/
def FrameOk (pureF : FuncId → FMode) (call : Caller) : Prop := ∀ f args h v k, f ≠ YLD → pureF f ≠ .pure → pureF f ≠ .look → call f args h = some (v, k) → ∃ h1, k = mergeH (V.objsL args) h h1 ∧ h.length ≤ h1.length ∧
  ∀ h', h'.length = h.length → keepOnly (V.objsL args) h' = keepOnly (V.objsL args) h → call f args h' = some (v, mergeH (V.objsL args) h' h1)

theorem frameC_frame {pureF : FuncId → FMode} {call : Caller} : FrameOk pureF (frameC pureF call) := by
  intro f args h v k hny n1 n2 hc
  have e : ∀ h, frameC pureF call f args h = match closedIn (V.objsL args) h.length (keepOnly (V.objsL args) h), call f args (keepOnly (V.objsL args) h) with
      | true, some (v, h1) => if h.length ≤ h1.length && v.objs.all (inside (V.objsL args) h.length) && closedIn (V.objsL args) h.length h1 then some (v, mergeH (V.objsL args) h h1) else none
      | _, _ => none := by
    intro h
    unfold frameC
    rw [if_neg hny]
    cases hm : pureF f with
    | pure => exact absurd hm n1
    | look => exact absurd hm n2
    | _ => rfl
  rw [e] at hc
  split at hc
  case h_2 => cases hc
  rename_i v1 h1 e1 e2
  split at hc
  case isFalse => cases hc
  rename_i hok
  cases hc
  have hle : h.length ≤ h1.length := by
    simp only [Bool.and_eq_true, decide_eq_true_eq] at hok
    exact hok.1.1
  refine ⟨h1, rfl, hle, fun h' hl hk => ?_⟩
  rw [e]
  simp only [hk, hl, e1, e2, hok, if_true]

theorem frameC_look {pureF : FuncId → FMode} {call : Caller} (hp : PureOk pureF call) : LookOk pureF (frameC pureF call) := by
  intro f args h v k hny hf hc h' ha
  have e : ∀ h, frameC pureF call f args h = if flatIn (V.objsL args) h then call f args h else none := by
    intro h
    unfold frameC
    rw [if_neg hny, hf]
  rw [e] at hc ⊢
  split at hc
  case isFalse => cases hc
  rename_i hfl
  have hfl' : flatIn (V.objsL args) h' = true := by
    unfold flatIn at hfl ⊢
    rw [List.all_eq_true] at hfl ⊢
    intro o ho
    have h1 := hfl o ho
    have h2 : h[o]? = h'[o]? := ha o ho
    rwa [← h2]
  rw [if_pos hfl']
  exact (hp.look f _ _ _ _ hny hf hc).2 hfl h' ha

theorem frameC_pure {pureF : FuncId → FMode} {call : Caller} (hp : PureOk pureF call) : PureOk pureF (frameC pureF call) := by
  constructor
  · intro f args h v k hny hf hc
    have e : ∀ h, frameC pureF call f args h = call f args h := by
      intro h; unfold frameC; rw [if_neg hny, hf]
    rw [e] at hc
    obtain ⟨h1, h2⟩ := hp.pure f _ _ _ _ hny hf hc
    exact ⟨h1, fun h' => by rw [e]; exact h2 h'⟩
  · intro f args h v k hny hf hc
    refine ⟨?_, fun _ h' ha => frameC_look hp f args h v k hny hf hc h' ha⟩
    unfold frameC at hc
    rw [if_neg hny, hf] at hc
    simp only at hc
    split at hc
    · exact (hp.look f _ _ _ _ hny hf hc).1
    · cases hc

/-- A round's call gives no object back. -/
def GrowY (call : Caller) : Prop := ∀ args h v k, call YLD args h = some (v, k) → h.length ≤ k.length

theorem frameC_grow {pureF : FuncId → FMode} {call : Caller} : GrowY (frameC pureF call) := by
  intro args h v k hc
  unfold frameC at hc
  rw [if_pos rfl] at hc
  split at hc
  · split at hc
    · rename_i hle
      cases hc
      exact hle
    · cases hc
  · cases hc

theorem resOp_call {pureF : FuncId → FMode} {call : Caller} (hc : FrameOk pureF call) {fb : Nat} {o : AOper} {t : List V} {h : Heap} {v : V} {k : Heap} {R : List Nat} (hf : fpAt pureF fb o t = .call R) (hr : resOp call fb o t h = some (v, k)) :
    ∃ h1, k = mergeH R h h1 ∧ h.length ≤ h1.length ∧ ∀ h', h'.length = h.length → keepOnly R h' = keepOnly R h → resOp call fb o t h' = some (v, mergeH R h' h1) := by
  have calls : ∀ f args, f ≠ YLD → fpCall (pureF f) (V.objsL args) = .call R → call f args h = some (v, k) → ∃ h1, k = mergeH R h h1 ∧ h.length ≤ h1.length ∧ ∀ h', h'.length = h.length → keepOnly R h' = keepOnly R h → call f args h' = some (v, mergeH R h' h1) := by
    intro f args hny hf hr
    unfold fpCall at hf
    split at hf
    · cases hf
    · cases hf
    · rename_i n1 n2
      cases hf
      exact hc f args h v k hny n1 n2 hr
  unfold resOp at hr ⊢
  unfold fpAt at hf
  cases hw : wanted o t with
  | none => simp [hw] at hr
  | some b =>
    cases b with
    | false => simp [hw] at hf
    | true =>
      simp only [hw] at hr hf ⊢
      cases hop : o.op with
      | call f args =>
        simp only [hop, fpOf] at hf
        simp only [hop, doOp] at hr ⊢
        by_cases hny : f = YLD
        · rw [if_pos hny] at hr; cases hr
        · rw [if_neg hny] at hr
          simp only [if_neg hny]
          exact calls _ _ hny hf hr
      | callv f args =>
        simp only [hop, fpOf] at hf
        simp only [hop, doOp] at hr ⊢
        cases hv : ev t f <;> simp only [hv] at hf hr ⊢ <;> first | (cases hf; done) | skip
        rename_i g xs ys
        by_cases hny : g = YLD
        · rw [if_pos hny] at hr; cases hr
        · rw [if_neg hny] at hr
          simp only [if_neg hny]
          exact calls _ _ hny hf hr
      | _ => simp [hop, fpOf] at hf

/-- Two operations that do not meet: one order is as good as the other. -/
theorem diamond {pureF : FuncId → FMode} {call : Caller} (hp : PureOk pureF call) (hk : LookOk pureF call) (hc : FrameOk pureF call) {n : Nat} {fb : Nat} {x y : AOper} (hap : apartA x y = true) {t : List V} {h : Heap} (hn : n ≤ h.length) {s1 s12 : List V × Heap} (h1 : stepOp call fb x t h = some s1) (h2 : stepOp call fb y s1.1 s1.2 = some s12)
    (hok : (fpAt pureF fb x t).ok n (fpAt pureF fb y s1.1) = true) : ∃ s2, stepOp call fb y t h = some s2 ∧ stepOp call fb x s2.1 s2.2 = some s12 ∧ fpAt pureF fb x s2.1 = fpAt pureF fb x t ∧ fpAt pureF fb y t = fpAt pureF fb y s1.1 := by
  obtain ⟨a1, a2, a3⟩ := apartA_spec hap
  rw [stepOp_eq] at h1 h2
  simp only [Option.map_eq_some_iff] at h1 h2
  obtain ⟨⟨v1, k1⟩, r1, rfl⟩ := h1
  obtain ⟨⟨v2, k12⟩, r2, rfl⟩ := h2
  simp only at r2 hok ⊢
  rw [resOp_put a1] at r2
  rw [fpAt_put a1] at hok ⊢
  have fin : ∀ k2, resOp call fb y t h = some (v2, k2) → resOp call fb x t k2 = some (v1, k12) →
      ∃ s2, stepOp call fb y t h = some s2 ∧ stepOp call fb x s2.1 s2.2 = some (put (put t x.dst v1) y.dst v2, k12) ∧ fpAt pureF fb x s2.1 = fpAt pureF fb x t ∧ fpAt pureF fb y t = fpAt pureF fb y t := by
    intro k2 q1 q2
    refine ⟨(put t y.dst v2, k2), by rw [stepOp_eq, q1]; rfl, ?_, fpAt_put a3, rfl⟩
    rw [stepOp_eq]
    simp only
    rw [resOp_put a3, q2, Option.map_some]
    simp only
    rw [put_comm a2]
  suffices hh : ∃ k2, resOp call fb y t h = some (v2, k2) ∧ resOp call fb x t k2 = some (v1, k12) by
    obtain ⟨k2, q1, q2⟩ := hh
    exact fin k2 q1 q2
  clear fin
  cases hfx : fpAt pureF fb x t with
  | bar =>
    rw [hfx] at hok
    cases hfy : fpAt pureF fb y t with
    | bar => rw [hfy] at hok; simp [Fp.ok] at hok
    | call R => rw [hfy] at hok; simp [Fp.ok] at hok
    | io r w =>
      rw [hfy] at hok
      cases r <;> cases w <;> simp [Fp.ok] at hok
      rcases resOp_local hp hk hfy r2 with ⟨rfl, hl⟩ | ⟨i, z, hi, -⟩
      · have q := hl h (fun o ho => by simp at ho)
        exact ⟨h, q, r1⟩
      · simp at hi
  | call R =>
    rw [hfx] at hok
    cases hfy : fpAt pureF fb y t with
    | bar => rw [hfy] at hok; simp [Fp.ok] at hok
    | call R' => rw [hfy] at hok; simp [Fp.ok] at hok
    | io r w =>
      rw [hfy] at hok
      have hok' : disj R (r ++ w) = true ∧ ∀ o ∈ r ++ w, o < n := by
        have : ((Fp.call R).ok n (.io r w)) = (disj R (r ++ w) && (r ++ w).all fun o => decide (o < n)) := by
          cases r <;> cases w <;> rfl
        rw [this] at hok
        simp only [Bool.and_eq_true] at hok
        exact ⟨hok.1, fun o ho => by simpa using List.all_eq_true.1 hok.2 o ho⟩
      have d : ∀ o ∈ r ++ w, o ∉ R := fun o ho hR => disj_spec hok'.1 o hR ho
      obtain ⟨h1, rfl, hle, hcall⟩ := resOp_call hc hfx r1
      have ha := mergeH_agree (h1 := h1) d hok'.2 hn hle
      rcases resOp_local hp hk hfy r2 with ⟨rfl, hl⟩ | ⟨i, z, hi, rfl, hl⟩
      · exact ⟨h, hl h ha, r1⟩
      · have hi' : i ∈ r ++ w := by simp [hi]
        refine ⟨h.set i z, hl h ha, ?_⟩
        rw [hcall _ (by simp) (keepOnly_set (d i hi')), mergeH_set (d i hi') (Nat.lt_of_lt_of_le (hok'.2 i hi') hn) hle]
  | io r w =>
    rw [hfx] at hok
    cases hfy : fpAt pureF fb y t with
    | call R =>
      rw [hfy] at hok
      have hok' : disj R (r ++ w) = true ∧ ∀ o ∈ r ++ w, o < n := by
        have : ((Fp.io r w).ok n (.call R)) = (disj R (r ++ w) && (r ++ w).all fun o => decide (o < n)) := by
          cases r <;> cases w <;> rfl
        rw [this] at hok
        simp only [Bool.and_eq_true] at hok
        exact ⟨hok.1, fun o ho => by simpa using List.all_eq_true.1 hok.2 o ho⟩
      have d : ∀ o ∈ r ++ w, o ∉ R := fun o ho hR => disj_spec hok'.1 o hR ho
      rcases resOp_local hp hk hfx r1 with ⟨rfl, hl⟩ | ⟨i, z, hi, rfl, hl⟩
      · obtain ⟨h1, rfl, hle, hcall⟩ := resOp_call hc hfy r2
        refine ⟨_, r2, hl _ fun o ho => (mergeH_agree (h1 := h1) d hok'.2 hn hle o ho).symm⟩
      · have hi' : i ∈ r ++ w := by simp [hi]
        obtain ⟨h1, rfl, hle, hcall⟩ := resOp_call hc hfy r2
        rw [List.length_set] at hle
        have q := hcall h (by simp) (keepOnly_set (d i hi')).symm
        refine ⟨_, q, ?_⟩
        rw [hl _ fun o ho => (mergeH_agree (h1 := h1) d hok'.2 hn hle o ho).symm, mergeH_set (d i hi') (Nat.lt_of_lt_of_le (hok'.2 i hi') hn) hle]
    | bar =>
      rw [hfy] at hok
      cases r <;> cases w <;> simp [Fp.ok] at hok
      rcases resOp_local hp hk hfx r1 with ⟨rfl, hl⟩ | ⟨i, z, hi, -⟩
      · exact ⟨k12, r2, hl k12 (fun o ho => by simp at ho)⟩
      · simp at hi
    | io r' w' =>
      rw [hfy] at hok
      have hok' : disj w (r' ++ w') = true ∧ disj w' r = true := by
        have : ((Fp.io r w).ok n (.io r' w')) = (disj w (r' ++ w') && disj w' r) := by
          cases r <;> cases w <;> rfl
        rw [this] at hok
        simpa using hok
      have d1 := disj_spec hok'.1
      have d2 := disj_spec hok'.2
      rcases resOp_local hp hk hfx r1 with ⟨rfl, hl1⟩ | ⟨i, z, hi, rfl, hl1⟩
      · rcases resOp_local hp hk hfy r2 with ⟨rfl, hl2⟩ | ⟨j, z', hj, rfl, hl2⟩
        · exact ⟨_, r2, hl1 _ (fun o _ => rfl)⟩
        · refine ⟨_, r2, hl1 _ (agree_set ?_)⟩
          intro hm
          rcases List.mem_append.1 hm with hm | hm
          · exact d2 j hj hm
          · exact d1 j hm (by simp [hj])
      · have hi' : i ∉ r' ++ w' := d1 i hi
        rcases resOp_local hp hk hfy r2 with ⟨rfl, hl2⟩ | ⟨j, z', hj, rfl, hl2⟩
        · exact ⟨h, hl2 h (agree_set' hi'), hl1 h (fun o _ => rfl)⟩
        · have hij : i ≠ j := fun e => hi' (by simp [e, hj])
          have hj' : j ∉ r ++ w := by
            intro hm
            rcases List.mem_append.1 hm with hm | hm
            · exact d2 j hj hm
            · exact d1 j hm (by simp [hj])
          refine ⟨h.set j z', hl2 h (agree_set' hi'), ?_⟩
          rw [hl1 _ (agree_set hj'), List.set_comm _ _ hij]

theorem resOp_grows {pureF : FuncId → FMode} {call : Caller} (hp : PureOk pureF call) (hk : LookOk pureF call) (hc : FrameOk pureF call) (hg : GrowY call) {fb : Nat} {o : AOper} {t : List V} {h : Heap} {v : V} {k : Heap} (hr : resOp call fb o t h = some (v, k)) : h.length ≤ k.length := by
  cases hf : fpAt pureF fb o t with
  | io r w =>
    rcases resOp_local hp hk hf hr with ⟨rfl, -⟩ | ⟨i, z, -, rfl, -⟩ <;> simp
  | call R =>
    obtain ⟨h1, rfl, hle, -⟩ := resOp_call hc hf hr
    rw [mergeH_length]; exact hle
  | bar =>
    unfold fpAt at hf
    unfold resOp at hr
    cases hw : wanted o t with
    | none => simp [hw] at hr
    | some b =>
      cases b with
      | false => simp [hw] at hf
      | true =>
        simp only [hw] at hr hf
        have nb : ∀ m R, fpCall m R ≠ .bar := fun m R => by cases m <;> simp [fpCall]
        cases hop : o.op with
        | callv f args =>
          simp only [hop, fpOf] at hf
          simp only [hop, doOp] at hr
          cases hv : ev t f <;> simp only [hv] at hf hr <;> first | (cases hr; done) | skip
          · exact absurd hf (nb _ _)
          · exact hg _ _ _ _ hr
        | call f args =>
          simp only [hop, fpOf] at hf
          exact absurd hf (nb _ _)
        | _ => simp [hop, fpOf] at hf

theorem stepOp_grows {pureF : FuncId → FMode} {call : Caller} (hp : PureOk pureF call) (hk : LookOk pureF call) (hc : FrameOk pureF call) (hg : GrowY call) {fb : Nat} {o : AOper} {t : List V} {h : Heap} {s : List V × Heap} (hr : stepOp call fb o t h = some s) : h.length ≤ s.2.length := by
  rw [stepOp_eq, Option.map_eq_some_iff] at hr
  obtain ⟨⟨v, k⟩, hr, rfl⟩ := hr
  exact resOp_grows hp hk hc hg hr

end Go.Am
