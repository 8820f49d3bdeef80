/- The abstract machine's code: how it runs; and of which objects an operation's doing hangs. -/
import Derived.Test.YtifbkofianklaaaAm15
set_option linter.unusedVariables false
set_option linter.unusedSimpArgs false
namespace Go.Am

structure AOper where
  dst : Option Nat
  op : AOp
  guard : Option (Nat × Bool)
  deriving Inhabited

inductive ACode where
  | skip
  | region (ops : List AOper)
  | draw (ops : List (AOper × List Nat))
  | seq (a b : ACode)
  | cond (c : Opd) (thn els : ACode)
  | block (id : Nat) (body : ACode)
  | loop (clr kill : List Nat) (body : ACode)
  | exit (id : Nat)
  | ret
  | clr (l : List Nat)
  | rangeF (f : Opd) (ps : List Nat) (asn body : ACode) (fid k site : Nat)
  deriving Inhabited

/-- The number by which a round is called for: no function has it. -/
abbrev YLD : Nat := 1000000007

inductive Ex where
  | norm | exit (id : Nat) | ret

inductive ARes where
  | tmp (t : Nat)
  | cell (t : Nat) (ag : Option Nat)
  deriving Inhabited

/-- How a call of a function is made: 'pure': on a memory of its own, what it answers taken as a whole; 'keep': on the caller's; 'auto': the first where no argument names an object, else the second; 'look': it looks at what its arguments name, writes nothing there, and answers plain values. -/
inductive FMode where
  | pure | auto | keep | look
  deriving Inhabited, DecidableEq

structure AFunc where
  nargs : Nat
  nt : Nat
  sites : Nat
  mode : FMode
  body : ACode
  res : List ARes
  deriving Inhabited

def ev (t : List V) : Opd → V
  | .tmp i => t.getD i .junk
  | .cst v => v

def put (t : List V) (dst : Option Nat) (v : V) : List V :=
  match dst with
  | some d => t.set d v
  | none => t

/-- Is the operation asked for? -/
def wanted (o : AOper) (t : List V) : Option Bool :=
  match o.guard with
  | none => some true
  | some (g, want) =>
    match t.getD g .junk with
    | .bool b => some (match want with | true => b | false => !b)
    | .tup [] => some false
    | _ => none

abbrev Caller := FuncId → List V → Heap → Option (V × Heap)

def doOp (call : Caller) (fb : Nat) (op : AOp) (ρ : Opd → V) (h : Heap) : Option (V × Heap) :=
  match op with
  | .call f args => if f = YLD then none else call f (args.map ρ) h
  | .callv f args =>
    match ρ f with
    | .func g xs ys => if g = YLD then none else call g (xs ++ args.map ρ ++ ys) h
    | .yld o ver => call YLD (.yld o ver :: args.map ρ) h
    | _ => none
  | op =>
    match prim fb ρ (fun o => h[o]?) op with
    | some (.ret v) => some (v, h)
    | some (.set o x v) => some (v, h.set o x)
    | none => none

def stepOp (call : Caller) (fb : Nat) (o : AOper) (t : List V) (h : Heap) : Option (List V × Heap) :=
  match wanted o t with
  | none => none
  | some false => some (put t o.dst (.tup []), h)
  | some true =>
    match doOp call fb o.op (ev t) h with
    | some (v, h') => some (put t o.dst v, h')
    | none => none

def runOps (call : Caller) (fb : Nat) : List AOper → List V → Heap → Option (List V × Heap)
  | [], t, h => some (t, h)
  | o :: os, t, h =>
    match stepOp call fb o t h with
    | some (t', h') => runOps call fb os t' h'
    | none => none

mutual
/-- The objects that are named in it. -/
def V.objs : (v : V) → List Nat
  | .ptr o _ _ | .view o _ _ _ _ _ | .vend o _ _ | .map o _ | .yld o _ => [o]
  | .iptr cs _ => V.objsL cs
  | .sl L _ _ => V.objsL L
  | .func _ xs ys => V.objsL xs ++ V.objsL ys
  | .iface _ v => V.objs v
  | .agg cs => V.objsL cs
  | .tup cs => V.objsL cs
  | _ => []
  termination_by structural v => v
def V.objsL : (l : List V) → List Nat
  | [] => []
  | v :: l => V.objs v ++ V.objsL l
  termination_by structural l => l
end

def Bd.objs : Bd → List Nat
  | .dead => []
  | .var cs | .arr cs => V.objsL cs
  | .map es _ => es.flatMap fun (k, v, _) => k.objs ++ v.objs
  | .loop _ _ t _ _ _ => V.objsL t

/-- Of a heap, the objects of R alone. -/
def keepOnly (R : List Nat) (h : Heap) : Heap := h.mapIdx fun o x => if R.contains o then x else ⟨0, .dead⟩

def inside (R : List Nat) (n o : Nat) : Bool := R.contains o || decide (n ≤ o)

/-- A heap, with what came of its objects of R. -/
def mergeH (R : List Nat) (h h1 : Heap) : Heap := h1.mapIdx fun o x => if inside R h.length o then x else h.getD o x

def closedIn (R : List Nat) (n : Nat) (h1 : Heap) : Bool := h1.zipIdx.all fun (x, o) => !inside R n o || x.bd.objs.all (inside R n)

/-- Do the objects of R name no others? -/
def flatIn (R : List Nat) (h : Heap) : Bool := R.all fun o => match h[o]? with | some x => x.bd.objs.isEmpty | none => true

/-- A call, on the objects that its arguments name, and on no others. -/
def frameC (pureF : FuncId → FMode) (call : Caller) : Caller := fun f args h =>
  if f = YLD then (match call f args h with | some (v, k) => if h.length ≤ k.length then some (v, k) else none | none => none) else
  match pureF f with
  | .pure => call f args h
  | .look => if flatIn (V.objsL args) h then call f args h else none
  | _ =>
  match closedIn (V.objsL args) h.length (keepOnly (V.objsL args) h), call f args (keepOnly (V.objsL args) h) with
  | true, some (v, h1) => if h.length ≤ h1.length && v.objs.all (inside (V.objsL args) h.length) && closedIn (V.objsL args) h.length h1 then some (v, mergeH (V.objsL args) h h1) else none
  | _, _ => none

/-- What an operation looks at, and may write: objects; a call: its arguments' objects, and new ones; 'bar': whatever there is. -/
inductive Fp where
  | io (r w : List Nat)
  | call (r : List Nat)
  | bar

def fpV : V → List Nat
  | .ptr o _ _ => [o]
  | .view o _ _ _ _ _ => [o]
  | .vend o _ _ => [o]
  | _ => []

def fpCall (m : FMode) (R : List Nat) : Fp :=
  match m with
  | .pure => .io [] []
  | .look => .io R []
  | _ => .call R

def fpOf (pureF : FuncId → FMode) (fb : Nat) (ρ : Opd → V) : AOp → Fp
  | .allocz s _ | .box s _ | .mkslice s _ _ _ _ _ | .s2b s _ | .bnew s _ _ _ _ => .io [] [fb + s]
  | .load _ a => .io (fpV (ρ a)) []
  | .store _ a _ => .io [] (fpV (ρ a))
  | .clearS _ _ x => .io [] (fpV (ρ x))
  | .b2s x | .mark x => .io (fpV (ρ x)) []
  | .slA _ _ x _ _ _ | .slS _ x _ _ _ => .io (fpV (ρ x)) []
  | .append s _ _ x y => .io (fpV (ρ y)) ((fb + s) :: fpV (ρ x))
  | .copy _ x y => .io (fpV (ρ y)) (fpV (ρ x))
  | .call f args => fpCall (pureF f) (V.objsL (args.map ρ))
  | .callv f args => match ρ f with | .func g xs ys => fpCall (pureF g) (V.objsL (xs ++ args.map ρ ++ ys)) | _ => .bar
  | _ => .io [] []

def disj (a b : List Nat) : Bool := a.all fun x => !b.contains x

/-- Do they not meet? 'n': how many objects there were ahead of the region. -/
def Fp.ok (n : Nat) : Fp → Fp → Bool
  | .io r w, .io r' w' => disj w (r' ++ w') && disj w' r
  | .io r w, .call R => disj R (r ++ w) && (r ++ w).all fun o => decide (o < n)
  | .call R, .io r w => disj R (r ++ w) && (r ++ w).all fun o => decide (o < n)
  | .io [] [], .bar => true
  | .bar, .io [] [] => true
  | _, _ => false

def fpAt (pureF : FuncId → FMode) (fb : Nat) (o : AOper) (t : List V) : Fp :=
  match wanted o t with
  | some true => fpOf pureF fb (ev t) o.op
  | _ => .io [] []

/-- A region whose order is open, run in the text's order: what could meet in another order is held against each other. -/
def runDraw (pureF : FuncId → FMode) (call : Caller) (fb n : Nat) : List (AOper × List Nat) → List Fp → List V → Heap → Option (List V × Heap)
  | [], _, t, h => some (t, h)
  | (o, ps) :: os, fps, t, h =>
    if ps.all (fun k => (fps.getD k .bar).ok n (fpAt pureF fb o t)) then
      match stepOp call fb o t h with
      | some (t', h') => runDraw pureF call fb n os (fps ++ [fpAt pureF fb o t]) t' h'
      | none => none
    else none

def clear (clr : List Nat) (t : List V) : List V := clr.foldl (fun t i => t.set i .junk) t

def killA (fb : Nat) (kill : List Nat) (h : Heap) : Heap := kill.foldl (fun h k => match h[fb + k]? with | some x => h.set (fb + k) ⟨x.ver, .dead⟩ | none => h) h

def loopN (f : List V → Heap → Option (Ex × List V × Heap)) (pre : List V → Heap → List V × Heap) : Nat → List V → Heap → Option (Ex × List V × Heap)
  | 0, _, _ => none
  | n + 1, t, h =>
    match f (pre t h).1 (pre t h).2 with
    | some (.norm, t', h') => loopN f pre n t' h'
    | r => r

/-- Slots that are given values. -/
def setPs (ps : List Nat) (xs : List V) (t : List V) : List V := (ps.zip xs).foldl (fun t p => t.set p.1 p.2) t

/-- How a loop over a function goes on behind it. -/
def jumpE : Option (Option Nat) → Ex
  | none => .norm
  | some none => .ret
  | some (some i) => .exit i

def exec (pureF : FuncId → FMode) (call : Caller) (N fb : Nat) : ACode → List V → Heap → Option (Ex × List V × Heap)
  | .skip, t, h => some (.norm, t, h)
  | .region ops, t, h => match runOps call fb ops t h with | some (t', h') => some (.norm, t', h') | none => none
  | .draw ops, t, h => match runDraw pureF (frameC pureF call) fb h.length ops [] t h with | some (t', h') => some (.norm, t', h') | none => none
  | .seq a b, t, h => match exec pureF call N fb a t h with | some (.norm, t', h') => exec pureF call N fb b t' h' | r => r
  | .cond c a b, t, h => match ev t c with | .bool true => exec pureF call N fb a t h | .bool false => exec pureF call N fb b t h | _ => none
  | .block id b, t, h => match exec pureF call N fb b t h with | some (.exit i, t', h') => if i = id then some (.norm, t', h') else some (.exit i, t', h') | r => r
  | .loop clr kill b, t, h => loopN (exec pureF call N fb b) (fun t h => (clear clr t, killA fb kill h)) N t h
  | .exit id, t, h => some (.exit id, t, h)
  | .ret, t, h => some (.ret, t, h)
  | .clr l, t, h => some (.norm, clear l t, h)
  | .rangeF f _ _ _ fid k site, t, h =>
    match h[fb + site]? with
    | some x =>
      match ev t f with
      | .func g xs ys =>
        if g = YLD then none else
        match call g (xs ++ [.yld (fb + site) (x.ver + 1)] ++ ys) (h.set (fb + site) ⟨x.ver + 1, .loop 0 none t fb fid k⟩) with
        | some (_, h2) =>
          match h2[fb + site]? with
          | some ⟨v, .loop st pend _ _ _ _⟩ => if v = x.ver + 1 then if st = 1 then none else some (jumpE pend, t, h2.set (fb + site) ⟨v, .dead⟩) else none
          | _ => none
        | none => none
      | _ => none
    | none => none

/-- The loops over functions of a text, in order. -/
def rangesA : ACode → List (List Nat × ACode × ACode)
  | .seq a b => rangesA a ++ rangesA b
  | .cond _ a b => rangesA a ++ rangesA b
  | .block _ b | .loop _ _ b => rangesA b
  | .rangeF _ ps a b _ _ _ => (ps, a, b) :: (rangesA a ++ rangesA b)
  | _ => []

/-! ### Of which objects an operation's doing hangs -/

def Agree (l : List Nat) (get get' : Nat → Option Ob) : Prop := ∀ o ∈ l, get o = get' o

theorem cellsAt_local {get get' : Nat → Option Ob} {o ver : Nat} (h : get o = get' o) : cellsAt get o ver = cellsAt get' o ver := by
  unfold cellsAt; rw [h]

theorem loadA_local {get get' : Nat → Option Ob} {n : Nat} {p : V} (h : Agree (fpV p) get get') : loadA get n p = loadA get' n p := by
  cases p <;> simp only [loadA]
  rw [cellsAt_local (h _ (by simp [fpV]))]

theorem firstA_local {get get' : Nat → Option Ob} {s n : Nat} {p : V} (h : Agree (fpV p) get get') : firstA get s n p = firstA get' s n p := by
  cases p <;> simp only [firstA]
  rw [loadA_local (p := .ptr _ _ _) (by simpa [fpV] using h)]

theorem storeA_local {get get' : Nat → Option Ob} {o ver off : Nat} {new : List V} {v : V} (h : get o = get' o) : storeA get o ver off new v = storeA get' o ver off new v := by
  unfold storeA; rw [cellsAt_local h, h]

theorem mkA_local {get get' : Nat → Option Ob} {o : Nat} {bd : Bd} {v : Nat → V} (h : get o = get' o) : mkA get o bd v = mkA get' o bd v := by
  unfold mkA; rw [h]

theorem sliceA_local {get get' : Nat → Option Ob} {s : Nat} {x : V} {lo hi mx : Option V} (h : Agree (fpV x) get get') : sliceA get s x lo hi mx = sliceA get' s x lo hi mx := by
  cases x with
  | view o ver off len s' cap =>
    cases cap <;> simp only [sliceA]
    rw [cellsAt_local (h _ (by simp [fpV]))]
  | sl L s' cap => cases cap <;> rfl
  | _ => rfl

theorem appendA_local {get get' : Nat → Option Ob} {o s b : Nat} {x y : V} (h1 : Agree (fpV y) get get') (h2 : Agree (o :: fpV x) get get') : appendA get o s b x y = appendA get' o s b x y := by
  have ho := h2 o (by simp)
  unfold appendA
  cases lenA y with
  | none => rfl
  | some n =>
    simp only
    rw [firstA_local h1]
    cases firstA get' s n y with
    | none => rfl
    | some new =>
      simp only
      split
      · cases x with
        | nils => simp only [mkA_local ho]
        | sl L s' cap => cases cap <;> simp only [mkA_local ho]
        | vend o' ver s' => simp only [cellsAt_local (h2 o' (by simp [fpV]))]
        | view o' ver off len s' cap =>
          have ho' := h2 o' (by simp [fpV])
          simp only [cellsAt_local ho', storeA_local ho', mkA_local ho]
        | _ => rfl
      · rfl

theorem copyA_local {get get' : Nat → Option Ob} {s : Nat} {x y : V} (h1 : Agree (fpV y) get get') (h2 : Agree (fpV x) get get') : copyA get s x y = copyA get' s x y := by
  unfold copyA
  cases lenA x with
  | none => rfl
  | some dl =>
    cases lenA y with
    | none => rfl
    | some sl =>
      simp only
      rw [firstA_local h1]
      cases firstA get' s (Nat.min sl dl) y with
      | none => rfl
      | some new =>
        simp only
        split
        · cases x with
          | view o ver off len s' cap => simp only [storeA_local (h2 o (by simp [fpV]))]
          | _ => rfl
        · rfl

theorem storeA_set {get : Nat → Option Ob} {o ver off : Nat} {new : List V} {v : V} {o' : Nat} {x : Ob} {v' : V} (h : storeA get o ver off new v = some (.set o' x v')) : o' = o := by
  unfold storeA at h
  split at h
  · split at h <;> cases h; rfl
  · cases h

theorem clearA_local {get get' : Nat → Option Ob} {s : Nat} {zero : List V} {x : V} (h : Agree (fpV x) get get') : clearA get s zero x = clearA get' s zero x := by
  cases x with
  | view o ver off len s' cap => simp only [clearA, storeA_local (h o (by simp [fpV]))]
  | sl L s' cap => cases L <;> rfl
  | _ => rfl

theorem clearA_set {get : Nat → Option Ob} {s : Nat} {zero : List V} {x : V} {o' : Nat} {z : Ob} {v' : V} (h : clearA get s zero x = some (.set o' z v')) : o' ∈ fpV x := by
  unfold clearA at h
  split at h
  · cases h
  · cases h
  · cases h
  · split at h
    · cases h
    · split at h
      · rw [storeA_set h]; simp [fpV]
      · cases h
  · cases h

theorem prim_local {pureF : FuncId → FMode} {fb : Nat} {ρ : Opd → V} {op : AOp} {r w : List Nat} (hf : fpOf pureF fb ρ op = .io r w) {get get' : Nat → Option Ob} (h1 : Agree r get get') (h2 : Agree w get get') :
    prim fb ρ get op = prim fb ρ get' op := by
  cases op <;> simp only [fpOf, Fp.io.injEq, reduceCtorEq] at hf
  case allocz s z => obtain ⟨rfl, rfl⟩ := hf; simp only [prim]; exact mkA_local (h2 _ (by simp))
  case box s x =>
    obtain ⟨rfl, rfl⟩ := hf; simp only [prim]
    cases ρ x <;> first | rfl | exact mkA_local (h2 _ (by simp))
  case mkslice s z a b l c =>
    obtain ⟨rfl, rfl⟩ := hf; simp only [prim]
    simp only [mkA_local (h2 (fb + s) (by simp))]
  case s2b s x =>
    obtain ⟨rfl, rfl⟩ := hf; simp only [prim]
    cases ρ x <;> simp only
    simp only [mkA_local (h2 (fb + s) (by simp))]
  case bnew site row len s parts =>
    obtain ⟨rfl, rfl⟩ := hf; simp only [prim]
    simp only [mkA_local (h2 (fb + site) (by simp))]
  case clearS s zero x =>
    obtain ⟨rfl, rfl⟩ := hf; simp only [prim]
    exact clearA_local h2
  case mark x =>
    obtain ⟨rfl, rfl⟩ := hf; simp only [prim]
    cases hA : ρ x <;> simp only
    rw [cellsAt_local (h1 _ (by simp [hA, fpV]))]
  case load ag a => obtain ⟨rfl, rfl⟩ := hf; simp only [prim, loadA_local h1]
  case store n a x =>
    obtain ⟨rfl, rfl⟩ := hf; simp only [prim]
    cases hA : ρ a <;> simp only
    rw [storeA_local (h2 _ (by simp [hA, fpV]))]
  case b2s x =>
    obtain ⟨rfl, rfl⟩ := hf; simp only [prim]
    cases hA : ρ x <;> simp only <;> first | rfl | (rw [hA] at h1; simp only [firstA_local h1])
  case slA n s x lo hi mx =>
    obtain ⟨rfl, rfl⟩ := hf; simp only [prim]
    cases hA : ρ x <;> simp only
    rw [cellsAt_local (h1 _ (by simp [hA, fpV]))]
  case slS s x lo hi mx => obtain ⟨rfl, rfl⟩ := hf; simp only [prim, sliceA_local h1]
  case append s a b x y => obtain ⟨rfl, rfl⟩ := hf; simp only [prim, appendA_local h1 h2]
  case copy s x y => obtain ⟨rfl, rfl⟩ := hf; simp only [prim, copyA_local h1 h2]
  case eqc neg ag ks x y => cases ag <;> rfl
  all_goals rfl

theorem mkA_set {get : Nat → Option Ob} {o : Nat} {bd : Bd} {v : Nat → V} {o' : Nat} {x : Ob} {v' : V} (h : mkA get o bd v = some (.set o' x v')) : o' = o := by
  unfold mkA at h
  split at h <;> cases h; rfl

theorem appendA_set {get : Nat → Option Ob} {o s b : Nat} {x y : V} {o' : Nat} {z : Ob} {v' : V} (h : appendA get o s b x y = some (.set o' z v')) : o' ∈ o :: fpV x := by
  unfold appendA at h
  split at h
  · cases h
  split at h
  · cases h
  split at h
  case isFalse => cases h
  split at h
  · split at h
    · cases h
    · split at h
      · rw [mkA_set h]; simp
      · cases h
  · split at h
    · split at h
      · cases h
      · split at h
        · split at h
          · rw [mkA_set h]; simp
          · cases h
        · cases h
    · cases h
  · split at h
    · split at h
      · cases h
      · split at h
        · cases h
        · split at h
          · cases h; simp [fpV]
          · cases h
    · cases h
  · split at h
    · split at h
      · cases h
      · split at h
        · cases h
        · split at h
          · split at h
            · split at h
              · rw [storeA_set h]; simp [fpV]
              · split at h
                · rw [mkA_set h]; simp
                · cases h
            · split at h
              · split at h
                · cases h; simp [fpV]
                · cases h
              · rw [storeA_set h]; simp [fpV]
          · cases h
    · cases h
  · cases h

theorem copyA_set {get : Nat → Option Ob} {s : Nat} {x y : V} {o' : Nat} {z : Ob} {v' : V} (h : copyA get s x y = some (.set o' z v')) : o' ∈ fpV x := by
  unfold copyA at h
  split at h
  case h_2 => cases h
  simp only at h
  split at h
  · cases h
  split at h
  case isFalse => cases h
  split at h
  · cases h
  · cases h
  · split at h
    · split at h
      · cases h
      · rw [storeA_set h]; simp [fpV]
    · cases h
  · cases h

theorem prim_set {pureF : FuncId → FMode} {fb : Nat} {ρ : Opd → V} {op : AOp} {r w : List Nat} (hf : fpOf pureF fb ρ op = .io r w) {get : Nat → Option Ob} {o : Nat} {x : Ob} {v : V}
    (h : prim fb ρ get op = some (.set o x v)) : o ∈ w := by
  have map_ret : ∀ {α : Type} (m : Option α) (f : α → V), (m.map fun a => Eff.ret (f a)) = some (.set o x v) → False := by
    intro α m f hm
    cases m <;> simp at hm
  cases op <;> simp only [fpOf, Fp.io.injEq, reduceCtorEq] at hf <;> (try (obtain ⟨rfl, rfl⟩ := hf)) <;> simp only [prim] at h
  case allocz s z => rw [mkA_set h]; simp
  case box s y =>
    split at h
    · cases h
    · rw [mkA_set h]; simp
  case mkslice s z a b l c =>
    split at h
    · split at h
      · split at h
        · split at h
          · split at h
            · rw [mkA_set h]; simp
            · cases h
          · cases h
        · cases h
      · cases h
    · cases h
  case s2b s y =>
    split at h
    · rw [mkA_set h]; simp
    · cases h
  case bnew s row len sz parts =>
    split at h
    · rw [mkA_set h]; simp
    · cases h
  case clearS s zero y => exact clearA_set h
  case slA n s y lo hi mx =>
    split at h
    · split at h
      · exact (map_ret _ _ h).elim
      · cases h
    · simp only [Option.bind_eq_some_iff] at h
      obtain ⟨a, -, h⟩ := h
      split at h
      · split at h <;> cases h
      · cases h
    · cases h
  case minmax mx xs =>
    split at h
    · exact (map_ret _ (fun v => v) h).elim
    · cases h
  case mark y =>
    split at h
    · split at h
      · cases h
      · cases h
    · cases h
  case b2s y =>
    split at h
    · cases h
    · simp only [Option.bind_eq_some_iff] at h
      obtain ⟨n, -, cs, -, h⟩ := h
      exact (map_ret _ _ h).elim
  case store n a y =>
    split at h
    · rename_i o' ver off hA
      split at h
      · split at h
        · rw [storeA_set h, hA]; simp [fpV]
        · cases h
      · cases h
    · cases h
  case append s a b y z => exact appendA_set h
  case copy s y z => exact copyA_set h
  case eqc neg ag ks y z =>
    cases ag <;> simp only [prim] at h
    · exact (map_ret _ _ h).elim
    · split at h
      · exact (map_ret _ _ h).elim
      · cases h
  case iaddrA n s y i =>
    simp only [Option.bind_eq_some_iff] at h
    obtain ⟨j, -, h⟩ := h
    split at h <;> simp at h
  case iaddrS s y i =>
    unfold iaddrSA at h
    split at h
    · split at h
      · exact (map_ret _ _ h).elim
      · cases h
    · split at h
      · simp only [Option.bind_eq_some_iff] at h
        obtain ⟨j, -, h⟩ := h
        exact (map_ret _ _ h).elim
      · cases h
    · cases h
  case indexA n s ag y i =>
    simp only [Option.bind_eq_some_iff] at h
    obtain ⟨j, -, h⟩ := h
    split at h
    · split at h
      · exact (map_ret _ (fun v => v) h).elim
      · cases h
    · cases h
  case lenS y =>
    split at h
    · cases h
    · exact (map_ret _ _ h).elim
  case indexStr y i =>
    split at h
    · simp only [Option.bind_eq_some_iff] at h
      obtain ⟨j, -, h⟩ := h
      exact (map_ret _ _ h).elim
    · cases h
  all_goals
    exfalso
    first
    | (simp at h; done)
    | (simp only [Option.bind_eq_some_iff, Option.map_eq_some_iff, reduceCtorEq, and_false, exists_false, exists_const] at h; done)
    | ((repeat' split at h) <;> first | (cases h; done) | (simp at h; done))
    | skip

end Go.Am
