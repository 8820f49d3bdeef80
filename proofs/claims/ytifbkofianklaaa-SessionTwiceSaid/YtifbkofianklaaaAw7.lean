/- The same machine on short lists of slots: what it answers the other one answers. For runs by the kernel. -/
import Derived.Test.YtifbkofianklaaaAw3
set_option linter.unusedVariables false
set_option linter.unusedSimpArgs false
namespace Go.Am

abbrev Sl := List (Nat × V)

def getB : Sl → Nat → V
  | [], _ => .junk
  | (j, v) :: l, i => match Nat.beq i j with | true => v | false => getB l i

def insB (i : Nat) (x : V) : Sl → Sl
  | [] => [(i, x)]
  | (j, v) :: l => match Nat.beq i j with | true => (i, x) :: l | false => match Nat.blt i j with | true => (i, x) :: (j, v) :: l | false => (j, v) :: insB i x l

def delB (i : Nat) : Sl → Sl
  | [] => []
  | (j, v) :: l => match Nat.beq i j with | true => delB i l | false => (j, v) :: delB i l

def delsB : List Nat → Sl → Sl
  | [], l => l
  | i :: is, l => delsB is (delB i l)

theorem getB_eq : ∀ (l : Sl) (i : Nat), getB l i = get l i
  | [], _ => rfl
  | (j, v) :: l, i => by
    simp only [getB, get]
    cases h : Nat.beq i j with
    | true => rw [if_pos (Nat.eq_of_beq_eq_true h)]
    | false => rw [if_neg (Nat.ne_of_beq_eq_false h), getB_eq l]

theorem insB_eq (i : Nat) (x : V) : ∀ (l : Sl), insB i x l = ins i x l
  | [] => rfl
  | (j, v) :: l => by
    simp only [insB, ins]
    cases h : Nat.beq i j with
    | true => rw [if_pos (Nat.eq_of_beq_eq_true h)]
    | false =>
      rw [if_neg (Nat.ne_of_beq_eq_false h)]
      cases h2 : Nat.blt i j with
      | true => rw [if_pos (by simpa [Nat.blt_eq] using h2)]
      | false =>
        rw [if_neg (fun h3 => by rw [← Nat.blt_eq] at h3; rw [h3] at h2; cases h2), insB_eq i x l]

theorem delB_eq (i : Nat) : ∀ (l : Sl), delB i l = del i l
  | [] => rfl
  | (j, v) :: l => by
    simp only [delB, del]
    cases h : Nat.beq i j with
    | true => rw [if_pos (Nat.eq_of_beq_eq_true h), delB_eq i l]
    | false => rw [if_neg (Nat.ne_of_beq_eq_false h), delB_eq i l]

theorem delsB_eq : ∀ (is : List Nat) (l : Sl), delsB is l = dels is l
  | [], l => rfl
  | i :: is, l => by simp only [delsB, dels, delB_eq, delsB_eq is]

def evB (n : Nat) (l : Sl) : Opd → V
  | .tmp i => match Nat.blt i n with | true => getB l i | false => .junk
  | .cst v => v

theorem evB_eq (n : Nat) (l : Sl) : evB n l = ev (fr n l) := by
  funext o
  cases o with
  | cst v => rfl
  | tmp i =>
    simp only [evB, ev]
    cases h : Nat.blt i n with
    | true => rw [fr_getD (by simpa [Nat.blt_eq] using h), getB_eq]
    | false =>
      have hn : ¬ i < n := fun h3 => by rw [← Nat.blt_eq] at h3; rw [h3] at h; cases h
      rw [List.getD_eq_getElem?_getD, List.getElem?_eq_none (by rw [fr_length]; omega)]
      rfl

def putB (l : Sl) (dst : Option Nat) (v : V) : Sl := match dst with | some d => insB d v l | none => l

theorem put_B (n : Nat) (l : Sl) (dst : Option Nat) (v : V) : put (fr n l) dst v = fr n (putB l dst v) := by
  cases dst with
  | none => rfl
  | some d => simp only [putB, insB_eq]; exact put_fr n l d v

def wantedB (n : Nat) (o : AOper) (l : Sl) : Option Bool :=
  match o.guard with
  | none => some true
  | some (g, want) =>
    match evB n l (.tmp g) with
    | .bool b => some (match want with | true => b | false => !b)
    | .tup [] => some false
    | _ => none

theorem wanted_B (n : Nat) (o : AOper) (l : Sl) : wanted o (fr n l) = wantedB n o l := by
  unfold wanted wantedB
  rw [evB_eq]
  rfl

def stepOpB (call : Caller) (fb n : Nat) (o : AOper) (l : Sl) (h : Heap) : Option (Sl × Heap) :=
  match wantedB n o l with
  | none => none
  | some false => some (putB l o.dst (.tup []), h)
  | some true =>
    match doOp call fb o.op (evB n l) h with
    | some (v, h') => some (putB l o.dst v, h')
    | none => none

theorem stepOp_B (call : Caller) (fb n : Nat) (o : AOper) (l : Sl) (h : Heap) : stepOp call fb o (fr n l) h = (stepOpB call fb n o l h).map fun p => (fr n p.1, p.2) := by
  unfold stepOp stepOpB
  rw [wanted_B, evB_eq]
  cases wantedB n o l with
  | none => rfl
  | some b =>
    cases b with
    | false => simp only [put_B, Option.map_some]
    | true =>
      cases doOp call fb o.op (ev (fr n l)) h with
      | none => rfl
      | some p => simp only [put_B, Option.map_some]

def runOpsB (call : Caller) (fb n : Nat) : List AOper → Sl → Heap → Option (Sl × Heap)
  | [], l, h => some (l, h)
  | o :: os, l, h =>
    match stepOpB call fb n o l h with
    | some (l', h') => runOpsB call fb n os l' h'
    | none => none

theorem runOps_B (call : Caller) (fb n : Nat) : ∀ (ops : List AOper) (l : Sl) (h : Heap), runOps call fb ops (fr n l) h = (runOpsB call fb n ops l h).map fun p => (fr n p.1, p.2)
  | [], l, h => rfl
  | o :: os, l, h => by
    simp only [runOps, runOpsB, stepOp_B]
    cases stepOpB call fb n o l h with
    | none => rfl
    | some p => exact runOps_B call fb n os p.1 p.2

def fpAtB (pureF : FuncId → FMode) (fb n : Nat) (o : AOper) (l : Sl) : Fp :=
  match wantedB n o l with
  | some true => fpOf pureF fb (evB n l) o.op
  | _ => .io [] []

theorem fpAt_B (pureF : FuncId → FMode) (fb n : Nat) (o : AOper) (l : Sl) : fpAt pureF fb o (fr n l) = fpAtB pureF fb n o l := by
  unfold fpAt fpAtB
  rw [wanted_B, evB_eq]
  rfl

def runDrawB (pureF : FuncId → FMode) (call : Caller) (fb m n : Nat) : List (AOper × List Nat) → List Fp → Sl → Heap → Option (Sl × Heap)
  | [], _, l, h => some (l, h)
  | (o, ps) :: os, fps, l, h =>
    match ps.all (fun k => (fps.getD k .bar).ok m (fpAtB pureF fb n o l)) with
    | true =>
      match stepOpB call fb n o l h with
      | some (l', h') => runDrawB pureF call fb m n os (fps ++ [fpAtB pureF fb n o l]) l' h'
      | none => none
    | false => none

theorem runDraw_B (pureF : FuncId → FMode) (call : Caller) (fb m n : Nat) : ∀ (ops : List (AOper × List Nat)) (fps : List Fp) (l : Sl) (h : Heap), runDraw pureF call fb m ops fps (fr n l) h = (runDrawB pureF call fb m n ops fps l h).map fun p => (fr n p.1, p.2)
  | [], fps, l, h => rfl
  | (o, ps) :: os, fps, l, h => by
    simp only [runDraw, runDrawB, stepOp_B, fpAt_B]
    cases ps.all (fun k => (fps.getD k .bar).ok m (fpAtB pureF fb n o l)) with
    | false => rfl
    | true =>
      simp only [↓reduceIte]
      cases stepOpB call fb n o l h with
      | none => rfl
      | some p => exact runDraw_B pureF call fb m n os _ p.1 p.2

def loopNB (f : Sl → Heap → Option (Ex × Sl × Heap)) (pre : Sl → Heap → Sl × Heap) : Nat → Sl → Heap → Option (Ex × Sl × Heap)
  | 0, _, _ => none
  | n + 1, l, h =>
    match f (pre l h).1 (pre l h).2 with
    | some (.norm, l', h') => loopNB f pre n l' h'
    | r => r

theorem loopN_B {n : Nat} {f : List V → Heap → Option (Ex × List V × Heap)} {f' : Sl → Heap → Option (Ex × Sl × Heap)} (hf : ∀ l h, f (fr n l) h = (f' l h).map fun p => (p.1, fr n p.2.1, p.2.2)) {pre : List V → Heap → List V × Heap} {pre' : Sl → Heap → Sl × Heap}
    (hp : ∀ l h, pre (fr n l) h = (fr n (pre' l h).1, (pre' l h).2)) : ∀ (m : Nat) (l : Sl) (h : Heap), loopN f pre m (fr n l) h = (loopNB f' pre' m l h).map fun p => (p.1, fr n p.2.1, p.2.2)
  | 0, l, h => rfl
  | m + 1, l, h => by
    simp only [loopN, loopNB, hp, hf]
    cases f' (pre' l h).1 (pre' l h).2 with
    | none => rfl
    | some p =>
      obtain ⟨e, l', h'⟩ := p
      cases e with
      | norm => exact loopN_B hf hp m l' h'
      | _ => rfl

def execB (pureF : FuncId → FMode) (call : Caller) (N fb n : Nat) : ACode → Sl → Heap → Option (Ex × Sl × Heap)
  | .skip, l, h => some (.norm, l, h)
  | .region ops, l, h => match runOpsB call fb n ops l h with | some (l', h') => some (.norm, l', h') | none => none
  | .draw ops, l, h => match runDrawB pureF (frameC pureF call) fb h.length n ops [] l h with | some (l', h') => some (.norm, l', h') | none => none
  | .seq a b, l, h => match execB pureF call N fb n a l h with | some (.norm, l', h') => execB pureF call N fb n b l' h' | r => r
  | .cond c a b, l, h => match evB n l c with | .bool true => execB pureF call N fb n a l h | .bool false => execB pureF call N fb n b l h | _ => none
  | .block id b, l, h => match execB pureF call N fb n b l h with | some (.exit i, l', h') => (match Nat.beq i id with | true => some (.norm, l', h') | false => some (.exit i, l', h')) | r => r
  | .loop clr kill b, l, h => loopNB (execB pureF call N fb n b) (fun l h => (delsB clr l, killA fb kill h)) N l h
  | .exit id, l, h => some (.exit id, l, h)
  | .ret, l, h => some (.ret, l, h)
  | .clr is, l, h => some (.norm, delsB is l, h)
  | .rangeF f _ _ _ fid k site, l, h =>
    match h[fb + site]? with
    | some x =>
      match evB n l f with
      | .func g xs ys =>
        match Nat.beq g YLD with
        | true => none
        | false =>
        match call g (xs ++ [.yld (fb + site) (x.ver + 1)] ++ ys) (h.set (fb + site) ⟨x.ver + 1, .loop 0 none (fr n l) fb fid k⟩) with
        | some (_, h2) =>
          match h2[fb + site]? with
          | some ⟨v, .loop st pend _ _ _ _⟩ => if v = x.ver + 1 then if st = 1 then none else some (jumpE pend, l, h2.set (fb + site) ⟨v, .dead⟩) else none
          | _ => none
        | none => none
      | _ => none
    | none => none

theorem exec_B (pureF : FuncId → FMode) (call : Caller) (N fb n : Nat) : ∀ (c : ACode) (l : Sl) (h : Heap), exec pureF call N fb c (fr n l) h = (execB pureF call N fb n c l h).map fun p => (p.1, fr n p.2.1, p.2.2)
  | .skip, l, h => rfl
  | .region ops, l, h => by
    simp only [exec, execB, runOps_B]
    cases runOpsB call fb n ops l h <;> rfl
  | .draw ops, l, h => by
    simp only [exec, execB, runDraw_B]
    cases runDrawB pureF (frameC pureF call) fb h.length n ops [] l h <;> rfl
  | .seq a b, l, h => by
    simp only [exec, execB, exec_B pureF call N fb n a]
    cases execB pureF call N fb n a l h with
    | none => rfl
    | some p =>
      obtain ⟨e, l', h'⟩ := p
      cases e with
      | norm => exact exec_B pureF call N fb n b l' h'
      | _ => rfl
  | .cond c a b, l, h => by
    simp only [exec, execB, evB_eq]
    cases ev (fr n l) c with
    | bool x => cases x <;> first | exact exec_B pureF call N fb n a l h | exact exec_B pureF call N fb n b l h
    | _ => rfl
  | .block id b, l, h => by
    simp only [exec, execB, exec_B pureF call N fb n b]
    cases execB pureF call N fb n b l h with
    | none => rfl
    | some p =>
      obtain ⟨e, l', h'⟩ := p
      cases e with
      | exit i =>
        simp only [Option.map_some]
        cases hb : Nat.beq i id with
        | true => rw [if_pos (Nat.eq_of_beq_eq_true hb)]; rfl
        | false => rw [if_neg (Nat.ne_of_beq_eq_false hb)]; rfl
      | _ => rfl
  | .loop clr kill b, l, h => by
    simp only [exec, execB]
    exact loopN_B (exec_B pureF call N fb n b) (fun l h => by rw [fr_clear, delsB_eq]) N l h
  | .exit id, l, h => rfl
  | .ret, l, h => rfl
  | .clr is, l, h => by
    simp only [exec, execB, fr_clear, delsB_eq]
    rfl
  | .rangeF f ps a b fid k site, l, h => by
    simp only [exec, execB, evB_eq]
    cases h[fb + site]? with
    | none => rfl
    | some x =>
      cases ev (fr n l) f with
      | func g xs ys =>
        simp only
        cases hg : Nat.beq g YLD with
        | true => rw [if_pos (Nat.eq_of_beq_eq_true hg)]; rfl
        | false =>
          rw [if_neg (Nat.ne_of_beq_eq_false hg)]
          simp only
          cases call g (xs ++ [.yld (fb + site) (x.ver + 1)] ++ ys) (h.set (fb + site) ⟨x.ver + 1, .loop 0 none (fr n l) fb fid k⟩) with
          | none => rfl
          | some p =>
            obtain ⟨v, h2⟩ := p
            simp only
            cases hq : h2[fb + site]? with
            | none => rfl
            | some ob =>
              obtain ⟨v, bd⟩ := ob
              cases bd with
              | loop st pend t' fb' f' k' =>
                simp only
                by_cases c1 : v = x.ver + 1
                · by_cases c2 : st = 1
                  · simp only [c1, c2, ↓reduceIte, Option.map_none]
                  · simp only [c1, c2, ↓reduceIte, Option.map_some]
                · simp only [c1, ↓reduceIte, Option.map_none]
              | _ => rfl
      | _ => rfl

/-- A row of slots as a short list. -/
def toB : Nat → List V → Sl
  | _, [] => []
  | i, v :: t => match v with | .junk => toB (i + 1) t | v => (i, v) :: toB (i + 1) t

theorem get_toB : ∀ (t : List V) (k i : Nat), get (toB k t) i = if i < k then .junk else t.getD (i - k) .junk
  | [], k, i => by simp [toB, get]
  | v :: t, k, i => by
    have ih := get_toB t (k + 1) i
    have step : ∀ (l : Sl), (get l i = if i < k + 1 then .junk else t.getD (i - (k + 1)) .junk) → (if i = k then v else get l i) = if i < k then .junk else (v :: t).getD (i - k) .junk := by
      intro l hl
      by_cases h1 : i = k
      · subst h1; simp
      · rw [if_neg h1, hl]
        by_cases h2 : i < k
        · rw [if_pos (by omega), if_pos h2]
        · rw [if_neg (by omega), if_neg h2, show i - k = (i - (k + 1)) + 1 by omega, List.getD_cons_succ]
    cases v with
    | junk =>
      simp only [toB]
      rw [ih]
      by_cases h2 : i < k
      · rw [if_pos (by omega), if_pos h2]
      · rw [if_neg h2]
        by_cases h1 : i = k
        · subst h1; simp
        · rw [if_neg (by omega), show i - k = (i - (k + 1)) + 1 by omega, List.getD_cons_succ]
    | _ => exact step _ ih

theorem fr_toB (t : List V) : fr t.length (toB 0 t) = t := by
  apply List.ext_getElem?
  intro i
  rcases Nat.lt_or_ge i t.length with h | h
  · rw [fr_get? h, get_toB]
    simp [List.getD_eq_getElem?_getD, h]
  · rw [List.getElem?_eq_none (by rw [fr_length]; exact h), List.getElem?_eq_none h]

def yieldB (p : AProg) (call : Caller) (N : Nat) (args : List V) (h : Heap) : Option (V × Heap) :=
  match args with
  | .yld o ver :: xs =>
    match h[o]? with
    | some ⟨v, .loop _ _ t fb f k⟩ =>
      match Nat.beq v ver with
      | false => none
      | true =>
        match p[f]? with
        | some (some af) =>
          match (rangesA af.body)[k]? with
          | some (ps, asn, body) =>
            match Nat.beq xs.length ps.length with
            | false => none
            | true =>
              match execB (pureOf p) call N fb t.length asn ((ps.zip xs).foldl (fun l p => insB p.1 p.2 l) (toB 0 t)) h with
              | some (.norm, t1, h1) =>
                match h1[o]? with
                | some ⟨v1, .loop 0 p1 t2 fb2 f2 k2⟩ =>
                  match Nat.beq v1 ver with
                  | false => none
                  | true =>
                    match execB (pureOf p) call N fb t.length body t1 (h1.set o ⟨ver, .loop 1 p1 t2 fb2 f2 k2⟩) with
                    | some (x, _, h2) =>
                      match h2[o]? with
                      | some ⟨v2, .loop _ _ t3 fb3 f3 k3⟩ =>
                        match Nat.beq v2 ver with
                        | false => none
                        | true =>
                          match x with
                          | .norm => some (.bool true, h2.set o ⟨ver, .loop 0 none t3 fb3 f3 k3⟩)
                          | .exit id => some (.bool false, h2.set o ⟨ver, .loop 2 (some (some id)) t3 fb3 f3 k3⟩)
                          | .ret => some (.bool false, h2.set o ⟨ver, .loop 2 (some none) t3 fb3 f3 k3⟩)
                      | _ => none
                    | none => none
                | _ => none
              | _ => none
          | none => none
        | _ => none
    | _ => none
  | _ => none

theorem setPs_B (n : Nat) : ∀ (ps : List (Nat × V)) (l : Sl), ps.foldl (fun t p => t.set p.1 p.2) (fr n l) = fr n (ps.foldl (fun l p => insB p.1 p.2 l) l)
  | [], l => rfl
  | p :: ps, l => by
    rw [List.foldl_cons, List.foldl_cons, fr_set, ← insB_eq]
    exact setPs_B n ps _

theorem yield_B {p : AProg} {call : Caller} {N : Nat} {args : List V} {h : Heap} {r : V × Heap} (H : yieldB p call N args h = some r) : yieldA p call N args h = some r := by
  unfold yieldB at H
  split at H
  case h_2 => cases H
  rename_i o ver xs
  split at H
  case h_2 => cases H
  rename_i v st pd t fb f k hob
  split at H
  case h_1 => cases H
  rename_i hv
  have hv := Nat.eq_of_beq_eq_true hv
  split at H
  case h_2 => cases H
  rename_i af haf
  split at H
  case h_2 => cases H
  rename_i ps asn body hra
  split at H
  case h_1 => cases H
  rename_i hl
  have hl := Nat.eq_of_beq_eq_true hl
  split at H
  case h_2 => cases H
  rename_i t1 h1 he1
  split at H
  case h_2 => cases H
  rename_i v1 p1 t2 fb2 f2 k2 ho1
  split at H
  case h_1 => cases H
  rename_i hv1
  have hv1 := Nat.eq_of_beq_eq_true hv1
  split at H
  case h_2 => cases H
  rename_i x t4 h2 he2
  split at H
  case h_2 => cases H
  rename_i v2 st3 pd3 t3 fb3 f3 k3 ho2
  split at H
  case h_1 => cases H
  rename_i hv2
  have hv2 := Nat.eq_of_beq_eq_true hv2
  have e1 : exec (pureOf p) call N fb asn (setPs ps xs t) h = some (.norm, fr t.length t1, h1) := by
    have := exec_B (pureOf p) call N fb t.length asn ((ps.zip xs).foldl (fun l p => insB p.1 p.2 l) (toB 0 t)) h
    rw [← setPs_B, fr_toB, he1] at this
    exact this
  have e2 := exec_B (pureOf p) call N fb t.length body t1 (h1.set o ⟨ver, .loop 1 p1 t2 fb2 f2 k2⟩)
  rw [he2] at e2
  unfold yieldA
  simp only [hob, hv, ↓reduceIte, haf, hra, hl, e1, ho1, hv1, e2, Option.map_some, ho2, hv2]
  exact H

def resB (get : Nat → Option Ob) (n : Nat) (l : Sl) : List ARes → Option (List V)
  | [] => some []
  | r :: rs => match (match r with | .tmp i => some (evB n l (.tmp i)) | .cell i ag => (loadA get (nAg ag) (evB n l (.tmp i))).bind (packA ag)), resB get n l rs with | some v, some vs => some (v :: vs) | _, _ => none

theorem res_B (get : Nat → Option Ob) (n : Nat) (l : Sl) : ∀ (rs : List ARes), resA get (fr n l) rs = resB get n l rs
  | [] => rfl
  | r :: rs => by
    have e : resA1 get (fr n l) r = (match r with | .tmp i => some (evB n l (.tmp i)) | .cell i ag => (loadA get (nAg ag) (evB n l (.tmp i))).bind (packA ag)) := by
      rw [evB_eq]
      cases r <;> rfl
    simp only [resA, resB, e, res_B get n l rs]
    cases r <;> rfl

def bodyB (p : AProg) (call : Caller) (N fb : Nat) (fn : AFunc) (args : List V) (h : Heap) : Option (V × Heap) :=
  match Nat.ble args.length fn.nt with
  | false => none
  | true =>
    match execB (pureOf p) call N fb fn.nt fn.body (argsF 0 args) h with
    | some (.norm, l, h') => match resB (fun o => h'[o]?) fn.nt l fn.res with | some vs => some (packR vs, h') | none => none
    | some (.ret, l, h') => match resB (fun o => h'[o]?) fn.nt l fn.res with | some vs => some (packR vs, h') | none => none
    | _ => none

theorem body_B {p : AProg} {call : Caller} {N fb : Nat} {fn : AFunc} {args : List V} {h : Heap} {r : V × Heap} (H : bodyB p call N fb fn args h = some r) : bodyA p call N fb fn args h = some r := by
  unfold bodyB at H
  split at H
  case h_1 => cases H
  rename_i hle
  have hle := Nat.le_of_ble_eq_true hle
  unfold bodyA
  rw [fr_args args fn.nt hle, exec_B]
  split at H
  · rename_i l h' he
    rw [he]
    simp only [Option.map_some, res_B]
    exact H
  · rename_i l h' he
    rw [he]
    simp only [Option.map_some, res_B]
    exact H
  · cases H

def callB (p : AProg) (N : Nat) : Nat → Caller
  | 0, _, _, _ => none
  | n + 1, f, args, h =>
    match Nat.beq f YLD with
    | true => yieldB p (callB p N n) N args h
    | false =>
    match p[f]? with
    | some (some fn) =>
      match Nat.beq args.length fn.nargs with
      | false => none
      | true =>
        match fn.mode with
        | .keep => bodyB p (callB p N n) N h.length fn args (h ++ deads fn.sites)
        | .auto =>
          match V.freeL args with
          | true =>
            match bodyB p (callB p N n) N 0 fn args (deads fn.sites) with
            | some (v, h') => match V.shut (fun o => h'[o]?) sealDepth v with | some v' => some (v', h) | none => none
            | none => none
          | false => bodyB p (callB p N n) N h.length fn args (h ++ deads fn.sites)
        | .pure =>
          match V.freeL args with
          | true =>
            match bodyB p (callB p N n) N 0 fn args (deads fn.sites) with
            | some (v, h') => match V.shut (fun o => h'[o]?) sealDepth v with | some v' => some (v', h) | none => none
            | none => none
          | false => none
        | .look =>
          match args.mapM (V.shut (fun o => h[o]?) sealDepth) with
          | some args' =>
            match bodyB p (callB p N n) N 0 fn args' (deads fn.sites) with
            | some (v, _) => match v.plain with | true => some (v, h) | false => none
            | none => none
          | none => none
    | _ => none

theorem call_B (p : AProg) (N : Nat) : ∀ (n : Nat), Sub (callB p N n) (callA p N n)
  | 0 => by intro f args h r H; simp [callB] at H
  | n + 1 => by
    have ih := call_B p N n
    have B : ∀ {fb : Nat} {fn : AFunc} {args : List V} {h : Heap} {r : V × Heap}, bodyB p (callB p N n) N fb fn args h = some r → bodyA p (callA p N n) N fb fn args h = some r := fun H => bodyA_mono ih (Nat.le_refl _) (body_B H)
    intro f args h r H
    unfold callB at H
    unfold callA
    split at H
    · rename_i hy
      rw [if_pos (Nat.eq_of_beq_eq_true hy)]
      exact yieldA_mono ih (Nat.le_refl _) (yield_B H)
    · rename_i hy
      rw [if_neg (Nat.ne_of_beq_eq_false hy)]
      split at H
      case h_2 => cases H
      rename_i fn hf
      simp only [hf]
      split at H
      case h_1 => cases H
      rename_i hl
      rw [if_pos (Nat.eq_of_beq_eq_true hl)]
      split at H
      · rename_i hm; simp only [hm]; exact B H
      · rename_i hm
        simp only [hm]
        split at H
        · rename_i hfr
          rw [if_pos hfr]
          split at H
          · rename_i hb
            rw [B hb]
            exact H
          · cases H
        · rename_i hfr
          rw [if_neg (by rw [hfr]; decide)]
          exact B H
      · rename_i hm
        simp only [hm]
        split at H
        · rename_i hfr
          rw [if_pos hfr]
          split at H
          · rename_i hb
            rw [B hb]
            exact H
          · cases H
        · cases H
      · rename_i hm
        simp only [hm]
        split at H
        · rename_i hs
          simp only [hs]
          split at H
          · rename_i hb
            rw [B hb]
            split at H
            · rename_i hp
              simp only [hp, ↓reduceIte]
              exact H
            · cases H
          · cases H
        · cases H

/-- A closed call that was run, the quick way. -/
theorem closed_quick {p : AProg} {N0 n0 : Nat} {f : FuncId} {args : List V} {v : V} (hm : pureOf p f = .pure) (H : callB p N0 n0 f args [] = some (v, [])) {N n : Nat} (hN : N0 ≤ N) (hn : n0 ≤ n) (h : Heap) (hy : f ≠ YLD := by decide) : callA p N n f args h = some (v, h) :=
  closed_call hm (call_B p N0 n0 f args [] (v, []) H) hN hn h hy

end Go.Am
