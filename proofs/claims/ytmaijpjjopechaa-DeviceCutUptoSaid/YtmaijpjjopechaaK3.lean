import Derived.Test.YtmaijpjjopechaaK2
set_option linter.unusedVariables false
set_option linter.unusedSimpArgs false
namespace Go.Am
abbrev Sl := List (Nat × V)
def getB : Sl → Nat → V
  | [], _ => .junk
  | (j, v) :: l, i => match Nat.beq i j with | true => v | false => getB l i
def insB (i : Nat) (x : V) : Sl → Sl
  | [] => [(i, x)]
  | (j, v) :: l => match Nat.beq i j with | true => (i, x) :: l | false => match Nat.blt i j with | true => (i, x) :: (j, v) :: l | false => (j, v) :: insB i x l
def delB (i : Nat) : Sl → Sl
  | [] => []
  | (j, v) :: l => match Nat.beq i j with | true => delB i l | false => (j, v) :: delB i l
def delsB : List Nat → Sl → Sl
  | [], l => l
  | i :: is, l => delsB is (delB i l)
theorem getB_eq : ∀ (l : Sl) (i : Nat), getB l i = get l i
  | [], _ => rfl
  | (j, v) :: l, i => by
    simp only [getB, get]
    cases h : Nat.beq i j with
    | true => rw [if_pos (Nat.eq_of_beq_eq_true h)]
    | false => rw [if_neg (Nat.ne_of_beq_eq_false h), getB_eq l]
theorem insB_eq (i : Nat) (x : V) : ∀ (l : Sl), insB i x l = ins i x l
  | [] => rfl
  | (j, v) :: l => by
    simp only [insB, ins]
    cases h : Nat.beq i j with
    | true => rw [if_pos (Nat.eq_of_beq_eq_true h)]
    | false =>
      rw [if_neg (Nat.ne_of_beq_eq_false h)]
      cases h2 : Nat.blt i j with
      | true => rw [if_pos (by simpa [Nat.blt_eq] using h2)]
      | false =>
        rw [if_neg (fun h3 => by rw [← Nat.blt_eq] at h3; rw [h3] at h2; cases h2), insB_eq i x l]
theorem delB_eq (i : Nat) : ∀ (l : Sl), delB i l = del i l
  | [] => rfl
  | (j, v) :: l => by
    simp only [delB, del]
    cases h : Nat.beq i j with
    | true => rw [if_pos (Nat.eq_of_beq_eq_true h), delB_eq i l]
    | false => rw [if_neg (Nat.ne_of_beq_eq_false h), delB_eq i l]
theorem delsB_eq : ∀ (is : List Nat) (l : Sl), delsB is l = dels is l
  | [], l => rfl
  | i :: is, l => by simp only [delsB, dels, delB_eq, delsB_eq is]
def evB (n : Nat) (l : Sl) : Opd → V
  | .tmp i => match Nat.blt i n with | true => getB l i | false => .junk
  | .cst v => v
theorem evB_eq (n : Nat) (l : Sl) : evB n l = ev (fr n l) := by
  funext o
  cases o with
  | cst v => rfl
  | tmp i =>
    simp only [evB, ev]
    cases h : Nat.blt i n with
    | true => rw [fr_getD (by simpa [Nat.blt_eq] using h), getB_eq]
    | false =>
      have hn : ¬ i < n := fun h3 => by rw [← Nat.blt_eq] at h3; rw [h3] at h; cases h
      rw [List.getD_eq_getElem?_getD, List.getElem?_eq_none (by rw [fr_length]; omega)]
      rfl
def putB (l : Sl) (dst : Option Nat) (v : V) : Sl := match dst with | some d => insB d v l | none => l
theorem put_B (n : Nat) (l : Sl) (dst : Option Nat) (v : V) : put (fr n l) dst v = fr n (putB l dst v) := by
  cases dst with
  | none => rfl
  | some d => simp only [putB, insB_eq]; exact put_fr n l d v
def wantedB (n : Nat) (o : AOper) (l : Sl) : Option Bool :=
  match o.guard with
  | none => some true
  | some (g, want) =>
    match evB n l (.tmp g) with
    | .bool b => some (match want with | true => b | false => !b)
    | .tup [] => some false
    | _ => none
theorem wanted_B (n : Nat) (o : AOper) (l : Sl) : wanted o (fr n l) = wantedB n o l := by
  unfold wanted wantedB
  rw [evB_eq]
  rfl
def stepOpB (call : Caller) (fb n : Nat) (o : AOper) (l : Sl) (h : Heap) : Option (Sl × Heap) :=
  match wantedB n o l with
  | none => none
  | some false => some (putB l o.dst (.tup []), h)
  | some true =>
    match doOp call fb o.op (evB n l) h with
    | some (v, h') => some (putB l o.dst v, h')
    | none => none
theorem stepOp_B (call : Caller) (fb n : Nat) (o : AOper) (l : Sl) (h : Heap) : stepOp call fb o (fr n l) h = (stepOpB call fb n o l h).map fun p => (fr n p.1, p.2) := by
  unfold stepOp stepOpB
  rw [wanted_B, evB_eq]
  cases wantedB n o l with
  | none => rfl
  | some b =>
    cases b with
    | false => simp only [put_B, Option.map_some]
    | true =>
      cases doOp call fb o.op (ev (fr n l)) h with
      | none => rfl
      | some p => simp only [put_B, Option.map_some]
def runOpsB (call : Caller) (fb n : Nat) : List AOper → Sl → Heap → Option (Sl × Heap)
  | [], l, h => some (l, h)
  | o :: os, l, h =>
    match stepOpB call fb n o l h with
    | some (l', h') => runOpsB call fb n os l' h'
    | none => none
theorem runOps_B (call : Caller) (fb n : Nat) : ∀ (ops : List AOper) (l : Sl) (h : Heap), runOps call fb ops (fr n l) h = (runOpsB call fb n ops l h).map fun p => (fr n p.1, p.2)
  | [], l, h => rfl
  | o :: os, l, h => by
    simp only [runOps, runOpsB, stepOp_B]
    cases stepOpB call fb n o l h with
    | none => rfl
    | some p => exact runOps_B call fb n os p.1 p.2
def fpAtB (pureF : FuncId → FMode) (fb n : Nat) (o : AOper) (l : Sl) (h : Heap) : Fp :=
  match wantedB n o l with
  | some true => fpOf pureF fb (evB n l) h o.op
  | _ => .io [] []
theorem fpAt_B (pureF : FuncId → FMode) (fb n : Nat) (o : AOper) (l : Sl) (h : Heap) : fpAt pureF fb o (fr n l) h = fpAtB pureF fb n o l h := by
  unfold fpAt fpAtB
  rw [wanted_B, evB_eq]
  rfl
def runDrawB (pureF : FuncId → FMode) (call : Caller) (fb m n : Nat) : List (AOper × List Nat) → List FpT → Sl → Heap → Option (Sl × Heap)
  | [], _, l, h => some (l, h)
  | (o, ps) :: os, fps, l, h =>
    match ps.all (fun k => (fps.getD k .bar).ok m (fpAtB pureF fb n o l h)) with
    | true =>
      match stepOpB call fb n o l h with
      | some (l', h') => runDrawB pureF call fb m n os (fps ++ [tagP (o.op.rds (evB n l)) (fpAtB pureF fb n o l h) h h']) l' h'
      | none => none
    | false => none
theorem runDraw_B (pureF : FuncId → FMode) (call : Caller) (fb m n : Nat) : ∀ (ops : List (AOper × List Nat)) (fps : List FpT) (l : Sl) (h : Heap), runDraw pureF call fb m ops fps (fr n l) h = (runDrawB pureF call fb m n ops fps l h).map fun p => (fr n p.1, p.2)
  | [], fps, l, h => rfl
  | (o, ps) :: os, fps, l, h => by
    simp only [runDraw, runDrawB, stepOp_B, fpAt_B, evB_eq]
    cases ps.all (fun k => (fps.getD k .bar).ok m (fpAtB pureF fb n o l h)) with
    | false => rfl
    | true =>
      simp only [↓reduceIte]
      cases stepOpB call fb n o l h with
      | none => rfl
      | some p => exact runDraw_B pureF call fb m n os _ p.1 p.2
def loopNB (f : Sl → Heap → Option (Ex × Sl × Heap)) (pre : Sl → Heap → Sl × Heap) : Nat → Sl → Heap → Option (Ex × Sl × Heap)
  | 0, _, _ => none
  | n + 1, l, h =>
    match f (pre l h).1 (pre l h).2 with
    | some (.norm, l', h') => loopNB f pre n l' h'
    | r => r
theorem loopN_B {n : Nat} {f : List V → Heap → Option (Ex × List V × Heap)} {f' : Sl → Heap → Option (Ex × Sl × Heap)} (hf : ∀ l h, f (fr n l) h = (f' l h).map fun p => (p.1, fr n p.2.1, p.2.2)) {pre : List V → Heap → List V × Heap} {pre' : Sl → Heap → Sl × Heap}
    (hp : ∀ l h, pre (fr n l) h = (fr n (pre' l h).1, (pre' l h).2)) : ∀ (m : Nat) (l : Sl) (h : Heap), loopN f pre m (fr n l) h = (loopNB f' pre' m l h).map fun p => (p.1, fr n p.2.1, p.2.2)
  | 0, l, h => rfl
  | m + 1, l, h => by
    simp only [loopN, loopNB, hp, hf]
    cases f' (pre' l h).1 (pre' l h).2 with
    | none => rfl
    | some p =>
      obtain ⟨e, l', h'⟩ := p
      cases e with
      | norm => exact loopN_B hf hp m l' h'
      | _ => rfl
def execB (pureF : FuncId → FMode) (call : Caller) (N fb n : Nat) : ACode → Sl → Heap → Option (Ex × Sl × Heap)
  | .skip, l, h => some (.norm, l, h)
  | .region ops, l, h => match runOpsB call fb n ops l h with | some (l', h') => some (.norm, l', h') | none => none
  | .draw ops, l, h => match runDrawB pureF (frameC pureF call) fb h.length n ops [] l h with | some (l', h') => some (.norm, l', h') | none => none
  | .seq a b, l, h => match execB pureF call N fb n a l h with | some (.norm, l', h') => execB pureF call N fb n b l' h' | r => r
  | .cond c a b, l, h => match evB n l c with | .bool true => execB pureF call N fb n a l h | .bool false => execB pureF call N fb n b l h | _ => none
  | .block id b, l, h => match execB pureF call N fb n b l h with | some (.exit i, l', h') => (match Nat.beq i id with | true => some (.norm, l', h') | false => some (.exit i, l', h')) | r => r
  | .loop clr kill b, l, h => loopNB (execB pureF call N fb n b) (fun l h => (delsB clr l, killA fb kill h)) N l h
  | .exit id, l, h => some (.exit id, l, h)
  | .ret, l, h => some (.ret, l, h)
  | .clr is, l, h => some (.norm, delsB is l, h)
  | .fresh k b, l, h => execB pureF call N h.length n b l (h ++ deads k)
  | .rangeF f _ _ _ fid k site, l, h =>
    match h[fb + site]? with
    | some x =>
      match evB n l f with
      | .func g xs ys =>
        match Nat.beq g YLD with
        | true => none
        | false =>
        match call g (xs ++ [.yld (fb + site) (x.ver + 1)] ++ ys) (h.set (fb + site) ⟨x.ver + 1, .loop 0 none (fr n l) fb fid k⟩) with
        | some (_, h2) =>
          match h2[fb + site]? with
          | some ⟨v, .loop st pend _ _ _ _⟩ => if v = x.ver + 1 then if st = 1 then none else some (jumpE pend, l, h2.set (fb + site) ⟨v, .dead⟩) else none
          | _ => none
        | none => none
      | _ => none
    | none => none
theorem exec_B (pureF : FuncId → FMode) (call : Caller) (N fb n : Nat) : ∀ (c : ACode) (l : Sl) (h : Heap), exec pureF call N fb c (fr n l) h = (execB pureF call N fb n c l h).map fun p => (p.1, fr n p.2.1, p.2.2)
  | .skip, l, h => rfl
  | .region ops, l, h => by
    simp only [exec, execB, runOps_B]
    cases runOpsB call fb n ops l h <;> rfl
  | .draw ops, l, h => by
    simp only [exec, execB, runDraw_B]
    cases runDrawB pureF (frameC pureF call) fb h.length n ops [] l h <;> rfl
  | .seq a b, l, h => by
    simp only [exec, execB, exec_B pureF call N fb n a]
    cases execB pureF call N fb n a l h with
    | none => rfl
    | some p =>
      obtain ⟨e, l', h'⟩ := p
      cases e with
      | norm => exact exec_B pureF call N fb n b l' h'
      | _ => rfl
  | .cond c a b, l, h => by
    simp only [exec, execB, evB_eq]
    cases ev (fr n l) c with
    | bool x => cases x <;> first | exact exec_B pureF call N fb n a l h | exact exec_B pureF call N fb n b l h
    | _ => rfl
  | .block id b, l, h => by
    simp only [exec, execB, exec_B pureF call N fb n b]
    cases execB pureF call N fb n b l h with
    | none => rfl
    | some p =>
      obtain ⟨e, l', h'⟩ := p
      cases e with
      | exit i =>
        simp only [Option.map_some]
        cases hb : Nat.beq i id with
        | true => rw [if_pos (Nat.eq_of_beq_eq_true hb)]; rfl
        | false => rw [if_neg (Nat.ne_of_beq_eq_false hb)]; rfl
      | _ => rfl
  | .loop clr kill b, l, h => by
    simp only [exec, execB]
    exact loopN_B (exec_B pureF call N fb n b) (fun l h => by rw [fr_clear, delsB_eq]) N l h
  | .exit id, l, h => rfl
  | .ret, l, h => rfl
  | .clr is, l, h => by
    simp only [exec, execB, fr_clear, delsB_eq]
    rfl
  | .fresh k b, l, h => by
    simp only [exec, execB]
    exact exec_B pureF call N h.length n b l _
  | .rangeF f ps a b fid k site, l, h => by
    simp only [exec, execB, evB_eq]
    cases h[fb + site]? with
    | none => rfl
    | some x =>
      cases ev (fr n l) f with
      | func g xs ys =>
        simp only
        cases hg : Nat.beq g YLD with
        | true => rw [if_pos (Nat.eq_of_beq_eq_true hg)]; rfl
        | false =>
          rw [if_neg (Nat.ne_of_beq_eq_false hg)]
          simp only
          cases call g (xs ++ [.yld (fb + site) (x.ver + 1)] ++ ys) (h.set (fb + site) ⟨x.ver + 1, .loop 0 none (fr n l) fb fid k⟩) with
          | none => rfl
          | some p =>
            obtain ⟨v, h2⟩ := p
            simp only
            cases hq : h2[fb + site]? with
            | none => rfl
            | some ob =>
              obtain ⟨v, bd⟩ := ob
              cases bd with
              | loop st pend t' fb' f' k' =>
                simp only
                by_cases c1 : v = x.ver + 1
                · by_cases c2 : st = 1
                  · simp only [c1, c2, ↓reduceIte, Option.map_none]
                  · simp only [c1, c2, ↓reduceIte, Option.map_some]
                · simp only [c1, ↓reduceIte, Option.map_none]
              | _ => rfl
      | _ => rfl
def toB : Nat → List V → Sl
  | _, [] => []
  | i, v :: t => match v with | .junk => toB (i + 1) t | v => (i, v) :: toB (i + 1) t
theorem get_toB : ∀ (t : List V) (k i : Nat), get (toB k t) i = if i < k then .junk else t.getD (i - k) .junk
  | [], k, i => by simp [toB, get]
  | v :: t, k, i => by
    have ih := get_toB t (k + 1) i
    have step : ∀ (l : Sl), (get l i = if i < k + 1 then .junk else t.getD (i - (k + 1)) .junk) → (if i = k then v else get l i) = if i < k then .junk else (v :: t).getD (i - k) .junk := by
      intro l hl
      by_cases h1 : i = k
      · subst h1; simp
      · rw [if_neg h1, hl]
        by_cases h2 : i < k
        · rw [if_pos (by omega), if_pos h2]
        · rw [if_neg (by omega), if_neg h2, show i - k = (i - (k + 1)) + 1 by omega, List.getD_cons_succ]
    cases v with
    | junk =>
      simp only [toB]
      rw [ih]
      by_cases h2 : i < k
      · rw [if_pos (by omega), if_pos h2]
      · rw [if_neg h2]
        by_cases h1 : i = k
        · subst h1; simp
        · rw [if_neg (by omega), show i - k = (i - (k + 1)) + 1 by omega, List.getD_cons_succ]
    | _ => exact step _ ih
theorem fr_toB (t : List V) : fr t.length (toB 0 t) = t := by
  apply List.ext_getElem?
  intro i
  rcases Nat.lt_or_ge i t.length with h | h
  · rw [fr_get? h, get_toB]
    simp [List.getD_eq_getElem?_getD, h]
  · rw [List.getElem?_eq_none (by rw [fr_length]; exact h), List.getElem?_eq_none h]
def yieldB (p : AProg) (call : Caller) (N : Nat) (args : List V) (h : Heap) : Option (V × Heap) :=
  match args with
  | .yld o ver :: xs =>
    match h[o]? with
    | some ⟨v, .loop _ _ t fb f k⟩ =>
      match Nat.beq v ver with
      | false => none
      | true =>
        match p[f]? with
        | some (some af) =>
          match (rangesA af.body)[k]? with
          | some (ps, asn, body) =>
            match Nat.beq xs.length ps.length with
            | false => none
            | true =>
              match execB (pureOf p) call N fb t.length asn ((ps.zip xs).foldl (fun l p => insB p.1 p.2 l) (toB 0 t)) h with
              | some (.norm, t1, h1) =>
                match h1[o]? with
                | some ⟨v1, .loop 0 p1 t2 fb2 f2 k2⟩ =>
                  match Nat.beq v1 ver with
                  | false => none
                  | true =>
                    match execB (pureOf p) call N fb t.length body t1 (h1.set o ⟨ver, .loop 1 p1 t2 fb2 f2 k2⟩) with
                    | some (x, _, h2) =>
                      match h2[o]? with
                      | some ⟨v2, .loop _ _ t3 fb3 f3 k3⟩ =>
                        match Nat.beq v2 ver with
                        | false => none
                        | true =>
                          match x with
                          | .norm => some (.bool true, h2.set o ⟨ver, .loop 0 none t3 fb3 f3 k3⟩)
                          | .exit id => some (.bool false, h2.set o ⟨ver, .loop 2 (some (some id)) t3 fb3 f3 k3⟩)
                          | .ret => some (.bool false, h2.set o ⟨ver, .loop 2 (some none) t3 fb3 f3 k3⟩)
                      | _ => none
                    | none => none
                | _ => none
              | _ => none
          | none => none
        | _ => none
    | _ => none
  | _ => none
theorem setPs_B (n : Nat) : ∀ (ps : List (Nat × V)) (l : Sl), ps.foldl (fun t p => t.set p.1 p.2) (fr n l) = fr n (ps.foldl (fun l p => insB p.1 p.2 l) l)
  | [], l => rfl
  | p :: ps, l => by
    rw [List.foldl_cons, List.foldl_cons, fr_set, ← insB_eq]
    exact setPs_B n ps _
theorem yield_B {p : AProg} {call : Caller} {N : Nat} {args : List V} {h : Heap} {r : V × Heap} (H : yieldB p call N args h = some r) : yieldA p call N args h = some r := by
  unfold yieldB at H
  split at H
  case h_2 => cases H
  rename_i o ver xs
  split at H
  case h_2 => cases H
  rename_i v st pd t fb f k hob
  split at H
  case h_1 => cases H
  rename_i hv
  have hv := Nat.eq_of_beq_eq_true hv
  split at H
  case h_2 => cases H
  rename_i af haf
  split at H
  case h_2 => cases H
  rename_i ps asn body hra
  split at H
  case h_1 => cases H
  rename_i hl
  have hl := Nat.eq_of_beq_eq_true hl
  split at H
  case h_2 => cases H
  rename_i t1 h1 he1
  split at H
  case h_2 => cases H
  rename_i v1 p1 t2 fb2 f2 k2 ho1
  split at H
  case h_1 => cases H
  rename_i hv1
  have hv1 := Nat.eq_of_beq_eq_true hv1
  split at H
  case h_2 => cases H
  rename_i x t4 h2 he2
  split at H
  case h_2 => cases H
  rename_i v2 st3 pd3 t3 fb3 f3 k3 ho2
  split at H
  case h_1 => cases H
  rename_i hv2
  have hv2 := Nat.eq_of_beq_eq_true hv2
  have e1 : exec (pureOf p) call N fb asn (setPs ps xs t) h = some (.norm, fr t.length t1, h1) := by
    have := exec_B (pureOf p) call N fb t.length asn ((ps.zip xs).foldl (fun l p => insB p.1 p.2 l) (toB 0 t)) h
    rw [← setPs_B, fr_toB, he1] at this
    exact this
  have e2 := exec_B (pureOf p) call N fb t.length body t1 (h1.set o ⟨ver, .loop 1 p1 t2 fb2 f2 k2⟩)
  rw [he2] at e2
  unfold yieldA
  simp only [hob, hv, ↓reduceIte, haf, hra, hl, e1, ho1, hv1, e2, Option.map_some, ho2, hv2]
  exact H
def resB (get : Nat → Option Ob) (n : Nat) (l : Sl) : List ARes → Option (List V)
  | [] => some []
  | r :: rs => match (match r with | .tmp i => some (evB n l (.tmp i)) | .cell i ag => (loadA get (nAg ag) (evB n l (.tmp i))).bind (packA ag)), resB get n l rs with | some v, some vs => some (v :: vs) | _, _ => none
theorem res_B (get : Nat → Option Ob) (n : Nat) (l : Sl) : ∀ (rs : List ARes), resA get (fr n l) rs = resB get n l rs
  | [] => rfl
  | r :: rs => by
    have e : resA1 get (fr n l) r = (match r with | .tmp i => some (evB n l (.tmp i)) | .cell i ag => (loadA get (nAg ag) (evB n l (.tmp i))).bind (packA ag)) := by
      rw [evB_eq]
      cases r <;> rfl
    simp only [resA, resB, e, res_B get n l rs]
    cases r <;> rfl
def bodyB (p : AProg) (call : Caller) (N fb : Nat) (fn : AFunc) (args : List V) (h : Heap) : Option (V × Heap) :=
  match Nat.ble args.length fn.nt with
  | false => none
  | true =>
    match execB (pureOf p) call N fb fn.nt fn.body (argsF 0 args) h with
    | some (.norm, l, h') => match resB (fun o => h'[o]?) fn.nt l fn.res with | some vs => some (packR vs, h') | none => none
    | some (.ret, l, h') => match resB (fun o => h'[o]?) fn.nt l fn.res with | some vs => some (packR vs, h') | none => none
    | _ => none
theorem body_B {p : AProg} {call : Caller} {N fb : Nat} {fn : AFunc} {args : List V} {h : Heap} {r : V × Heap} (H : bodyB p call N fb fn args h = some r) : bodyA p call N fb fn args h = some r := by
  unfold bodyB at H
  split at H
  case h_1 => cases H
  rename_i hle
  have hle := Nat.le_of_ble_eq_true hle
  unfold bodyA
  rw [fr_args args fn.nt hle, exec_B]
  split at H
  · rename_i l h' he
    rw [he]
    simp only [Option.map_some, res_B]
    exact H
  · rename_i l h' he
    rw [he]
    simp only [Option.map_some, res_B]
    exact H
  · cases H
def callB (p : AProg) (N : Nat) : Nat → Caller
  | 0, _, _, _ => none
  | n + 1, f, args, h =>
    match Nat.beq f YLD with
    | true => yieldB p (callB p N n) N args h
    | false =>
    match p[f]? with
    | some (some fn) =>
      match Nat.beq args.length fn.nargs with
      | false => none
      | true =>
        match fn.mode with
        | .keep => bodyB p (callB p N n) N h.length fn args (h ++ deads fn.sites)
        | .auto =>
          match V.freeL args with
          | true =>
            match bodyB p (callB p N n) N 0 fn args (deads fn.sites) with
            | some (v, h') => match V.shut (fun o => h'[o]?) sealDepth v with | some v' => some (v', h) | none => none
            | none => none
          | false => bodyB p (callB p N n) N h.length fn args (h ++ deads fn.sites)
        | .pure =>
          match V.freeL args with
          | true =>
            match bodyB p (callB p N n) N 0 fn args (deads fn.sites) with
            | some (v, h') => match V.shut (fun o => h'[o]?) sealDepth v with | some v' => some (v', h) | none => none
            | none => none
          | false => none
        | .look =>
          match args.mapM (V.shut (fun o => h[o]?) sealDepth) with
          | some args' =>
            match bodyB p (callB p N n) N 0 fn args' (deads fn.sites) with
            | some (v, _) => match v.plain with | true => some (v, h) | false => none
            | none => none
          | none => none
    | _ => none
theorem call_B (p : AProg) (N : Nat) : ∀ (n : Nat), Sub (callB p N n) (callA p N n)
  | 0 => by intro f args h r H; simp [callB] at H
  | n + 1 => by
    have ih := call_B p N n
    have B : ∀ {fb : Nat} {fn : AFunc} {args : List V} {h : Heap} {r : V × Heap}, bodyB p (callB p N n) N fb fn args h = some r → bodyA p (callA p N n) N fb fn args h = some r := fun H => bodyA_mono ih (Nat.le_refl _) (body_B H)
    intro f args h r H
    unfold callB at H
    unfold callA
    split at H
    · rename_i hy
      rw [if_pos (Nat.eq_of_beq_eq_true hy)]
      exact yieldA_mono ih (Nat.le_refl _) (yield_B H)
    · rename_i hy
      rw [if_neg (Nat.ne_of_beq_eq_false hy)]
      split at H
      case h_2 => cases H
      rename_i fn hf
      simp only [hf]
      split at H
      case h_1 => cases H
      rename_i hl
      rw [if_pos (Nat.eq_of_beq_eq_true hl)]
      split at H
      · rename_i hm; simp only [hm]; exact B H
      · rename_i hm
        simp only [hm]
        split at H
        · rename_i hfr
          rw [if_pos hfr]
          split at H
          · rename_i hb
            rw [B hb]
            exact H
          · cases H
        · rename_i hfr
          rw [if_neg (by rw [hfr]; decide)]
          exact B H
      · rename_i hm
        simp only [hm]
        split at H
        · rename_i hfr
          rw [if_pos hfr]
          split at H
          · rename_i hb
            rw [B hb]
            exact H
          · cases H
        · cases H
      · rename_i hm
        simp only [hm]
        split at H
        · rename_i hs
          simp only [hs]
          split at H
          · rename_i hb
            rw [B hb]
            split at H
            · rename_i hp
              simp only [hp, ↓reduceIte]
              exact H
            · cases H
          · cases H
        · cases H
theorem closed_quick {p : AProg} {N0 n0 : Nat} {f : FuncId} {args : List V} {v : V} (hm : pureOf p f = .pure) (H : callB p N0 n0 f args [] = some (v, [])) {N n : Nat} (hN : N0 ≤ N) (hn : n0 ≤ n) (h : Heap) (hy : f ≠ YLD := by decide) : callA p N n f args h = some (v, h) :=
  closed_call hm (call_B p N0 n0 f args [] (v, []) H) hN hn h hy
end Go.Am


set_option linter.unusedVariables false
set_option linter.unusedSimpArgs false
namespace Go.Am
theorem setPs_nil (xs : List V) (t : List V) : setPs [] xs t = t := rfl
theorem setPs_cons {p : Nat} {ps : List Nat} {x : V} {xs : List V} {n : Nat} {l : List (Nat × V)} : setPs (p :: ps) (x :: xs) (fr n l) = setPs ps xs (fr n (ins p x l)) := by
  simp only [setPs, List.zip_cons_cons, List.foldl_cons, fr_set]
theorem sx_rangeF {E : Env} {f : Opd} {ps : List Nat} {a b : ACode} {fid k site : Nat} {t : List V} {h : Heap} {Q : Post} {x : Ob} {g : FuncId} {xs ys : List V} {v : V} {h2 : Heap} {st : Nat} {pend : Option (Option Nat)} {t' : List V} {fb' f' k' : Nat}
    (hx : h[E.fb + site]? = some x) (hf : ev t f = .func g xs ys) (hc : E.call g (xs ++ [.yld (E.fb + site) (x.ver + 1)] ++ ys) (h.set (E.fb + site) ⟨x.ver + 1, .loop 0 none t E.fb fid k⟩) = some (v, h2))
    (h2o : h2[E.fb + site]? = some ⟨x.ver + 1, .loop st pend t' fb' f' k'⟩) (hst : st ≠ 1) (HQ : Q (jumpE pend) t (h2.set (E.fb + site) ⟨x.ver + 1, .dead⟩)) (hg : g ≠ YLD := by decide) : sx E (.rangeF f ps a b fid k site) t h Q := by
  show wp E (.rangeF f ps a b fid k site) t h Q
  unfold wp
  simp only [exec, hx, hf, if_neg hg, hc, h2o, ↓reduceIte, if_neg hst]
  exact HQ
def roundEnd : Ex → Nat × Option (Option Nat) × Bool
  | .norm => (0, none, true)
  | .exit id => (2, some (some id), false)
  | .ret => (2, some none, false)
theorem call_yld {p : AProg} {N n o ver : Nat} {xs : List V} {h : Heap} {st : Nat} {pd : Option (Option Nat)} {t : List V} {fb f k : Nat} {af : AFunc} {ps : List Nat} {asn body : ACode} {v : V} {h' : Heap} (ho : h[o]? = some ⟨ver, .loop st pd t fb f k⟩) (hp : p[f]? = some (some af))
    (hr : (rangesA af.body)[k]? = some (ps, asn, body)) (hl : xs.length = ps.length)
    (H : sx ⟨pureOf p, callA p N n, N, fb⟩ asn (setPs ps xs t) h fun e t1 h1 => e = .norm ∧ ∃ p1 t2 fb2 f2 k2, h1[o]? = some ⟨ver, .loop 0 p1 t2 fb2 f2 k2⟩ ∧
      sx ⟨pureOf p, callA p N n, N, fb⟩ body t1 (h1.set o ⟨ver, .loop 1 p1 t2 fb2 f2 k2⟩) fun e t' h2 => ∃ s3 p3 t3 fb3 f3 k3, h2[o]? = some ⟨ver, .loop s3 p3 t3 fb3 f3 k3⟩ ∧
        v = .bool (roundEnd e).2.2 ∧ h' = h2.set o ⟨ver, .loop (roundEnd e).1 (roundEnd e).2.1 t3 fb3 f3 k3⟩) :
    callA p N (n + 1) YLD (.yld o ver :: xs) h = some (v, h') := by
  have H1 := sx_wp H
  unfold wp at H1
  unfold callA
  rw [if_pos rfl]
  unfold yieldA
  simp only [ho, ↓reduceIte, hp, hr, hl]
  split at H1
  case h_2 => exact H1.elim
  rename_i e t1 h1 he
  obtain ⟨rfl, p1, t2, fb2, f2, k2, ho1, H2⟩ := H1
  have H3 := sx_wp H2
  unfold wp at H3
  simp only at he
  rw [he]
  simp only [ho1, ↓reduceIte]
  split at H3
  case h_2 => exact H3.elim
  rename_i e2 t4 h2 he2
  obtain ⟨s3, p3, t3, fb3, f3, k3, ho3, rfl, rfl⟩ := H3
  simp only at he2
  rw [he2]
  simp only [ho3, ↓reduceIte]
  cases e2 <;> rfl
end Go.Am


set_option linter.unusedVariables false
set_option linter.unusedSimpArgs false
namespace Go.Am
theorem frame_gen {m : FMode} {pureF : FuncId → FMode} {call : Caller} {f : FuncId} {args : List V} {h h1 : Heap} {v : V} {R : List Nat} (hm : pureF f = m) (hk : m = .keep ∨ m = .auto) (hR : reachC h (V.objsL args) = R)
    (hcl : ∀ o ∈ R, ∀ y, h[o]? = some y → ∀ i ∈ y.bd.objs, i ∈ R) (hc : call f args (keepOnly R h) = some (v, h1)) (hle : h.length ≤ h1.length) (hv : ∀ o ∈ v.objs, o ∈ R ∨ h.length ≤ o)
    (hn : ∀ (o : Nat) (y : Ob), h1[o]? = some y → (o ∈ R ∨ h.length ≤ o) → ∀ i ∈ y.bd.objs, i ∈ R ∨ h.length ≤ i) (hy : f ≠ YLD := by decide) :
    frameC pureF call f args h = some (v, mergeH R h h1) := by
  have ins : ∀ o, inside R h.length o = true ↔ (o ∈ R ∨ h.length ≤ o) := fun o => by simp [inside]
  have c1 : closedIn R h.length (keepOnly R h) = true := closedIn_of fun o y hy' hi i hi' => by
    rw [keepOnly_get] at hy'
    simp only [Option.map_eq_some_iff] at hy'
    obtain ⟨z, hz, rfl⟩ := hy'
    split at hi'
    · rename_i hcn
      exact (ins i).2 (.inl (hcl o (by simpa using hcn) z hz i hi'))
    · simp [Bd.objs] at hi'
  have c2 : closedIn R h.length h1 = true := closedIn_of fun o y hy' hi i hi' => (ins i).2 (hn o y hy' ((ins o).1 hi) i hi')
  have c3 : v.objs.all (inside R h.length) = true := List.all_eq_true.2 fun o ho => (ins o).2 (hv o ho)
  unfold frameC
  rw [if_neg hy, hR]
  rcases hk with rfl | rfl <;> simp only [hm, c1, hc, c2, c3, hle, decide_true, Bool.and_self, ↓reduceIte]
theorem wpd_gt {E : Env} {n g : Nat} {w : Bool} {dst : Option Nat} {op : AOp} {ps : List Nat} {os : List (AOper × List Nat)} {fps : List FpT} {t : List V} {h : Heap} {K : Cont} (hg : t.getD g .junk = .bool w) :
    wpd E n ((⟨dst, op, some (g, w)⟩, ps) :: os) fps t h K = ((ps.all fun k => (fps.getD k .bar).ok n (fpOf E.pureF E.fb (ev t) h op)) = true ∧ wop E op t h (wdK E n dst os fps (op.rds (ev t)) (fpOf E.pureF E.fb (ev t) h op) h t K)) := by
  have hw : wanted ⟨dst, op, some (g, w)⟩ t = some true := by unfold wanted; simp only [hg]; cases w <;> rfl
  have e2 : fpAt E.pureF E.fb ⟨dst, op, some (g, w)⟩ t h = fpOf E.pureF E.fb (ev t) h op := by simp only [fpAt, hw]
  unfold wpd
  simp only [runDraw, e2]
  cases hc : (ps.all fun k => (fps.getD k .bar).ok n (fpOf E.pureF E.fb (ev t) h op)) with
  | false => simp
  | true =>
    simp only [↓reduceIte, true_and, wop, wdK, wpd, stepOp, hw]
    cases doOp E.call E.fb op (ev t) h <;> rfl
theorem wpd_gf {E : Env} {n g : Nat} {w b : Bool} {dst : Option Nat} {op : AOp} {ps : List Nat} {os : List (AOper × List Nat)} {fps : List FpT} {t : List V} {h : Heap} {K : Cont} (hg : t.getD g .junk = .bool b) (hb : (b == w) = false) :
    wpd E n ((⟨dst, op, some (g, w)⟩, ps) :: os) fps t h K = ((ps.all fun k => (fps.getD k .bar).ok n (.io [] [])) = true ∧ wpd E n os (fps ++ [tagP (op.rds (ev t)) (.io [] []) h h]) (put t dst (.tup [])) h K) := by
  have hw : wanted ⟨dst, op, some (g, w)⟩ t = some false := by
    unfold wanted
    simp only [hg]
    revert hb
    cases b <;> cases w <;> decide
  have e2 : fpAt E.pureF E.fb ⟨dst, op, some (g, w)⟩ t h = .io [] [] := by simp only [fpAt, hw]
  unfold wpd
  simp only [runDraw, e2]
  cases hc : (ps.all fun k => (fps.getD k .bar).ok n (.io [] [])) with
  | false => simp
  | true => simp only [↓reduceIte, true_and, stepOp, hw]
theorem wpd_gu {E : Env} {n g : Nat} {w : Bool} {dst : Option Nat} {op : AOp} {ps : List Nat} {os : List (AOper × List Nat)} {fps : List FpT} {t : List V} {h : Heap} {K : Cont} (hg : t.getD g .junk = .tup []) :
    wpd E n ((⟨dst, op, some (g, w)⟩, ps) :: os) fps t h K = ((ps.all fun k => (fps.getD k .bar).ok n (.io [] [])) = true ∧ wpd E n os (fps ++ [tagP (op.rds (ev t)) (.io [] []) h h]) (put t dst (.tup [])) h K) := by
  have hw : wanted ⟨dst, op, some (g, w)⟩ t = some false := by unfold wanted; simp only [hg]
  have e2 : fpAt E.pureF E.fb ⟨dst, op, some (g, w)⟩ t h = .io [] [] := by simp only [fpAt, hw]
  unfold wpd
  simp only [runDraw, e2]
  cases hc : (ps.all fun k => (fps.getD k .bar).ok n (.io [] [])) with
  | false => simp
  | true => simp only [↓reduceIte, true_and, stepOp, hw]
theorem okT_of {n : Nat} {f g : Fp} : (FpT.of f).ok n g = f.ok n g := rfl
theorem okT_rd_io {n : Nat} {r r' w : List Nat} : (FpT.rd r).ok n (.io r' w) = disj w r := rfl
theorem okT_rd_call {n : Nat} {r R : List Nat} : (FpT.rd r).ok n (.call R) = disj R r := rfl
theorem okT_rd_bar {n : Nat} {r : List Nat} : (FpT.rd r).ok n .bar = r.isEmpty := rfl
theorem tagP_io {b : Bool} {r w : List Nat} {h h' : Heap} : tagP b (.io r w) h h' = tagF b (.io r w) := rfl
theorem tagP_bar {b : Bool} {h h' : Heap} : tagP b .bar h h' = tagF b .bar := rfl
theorem tagP_call {b : Bool} {R r : List Nat} {n : Nat} {h h' : Heap} (h1 : disj R r = true) (h2 : (r.all fun o => decide (o < n)) = true) : (tagP b (.call R) h h').ok n (.io r []) = true := by
  have e : (Fp.call R).ok n (.io r []) = (disj R (r ++ []) && (r ++ []).all fun o => decide (o < n)) := by cases r <;> rfl
  cases hs : sameR R h h' with
  | true =>
    simp only [tagP, hs]
    show (disj R [] && (r ++ []).all fun o => decide (o < n)) = true
    rw [List.append_nil, h2]
    simp [disj]
  | false =>
    simp only [tagP, hs]
    show (Fp.call R).ok n (.io r []) = true
    rw [e, List.append_nil, h1, h2]; rfl
theorem tagP_same {b : Bool} {R r : List Nat} {n : Nat} {h h' : Heap} (hs : sameR R h h' = true) (h2 : (r.all fun o => decide (o < n)) = true) : (tagP b (.call R) h h').ok n (.io r []) = true := by
  simp only [tagP, hs]
  show (disj R [] && (r ++ []).all fun o => decide (o < n)) = true
  rw [List.append_nil, h2]
  simp [disj]
def Bd.flatB : Bd → Bool | .dead => true | .var _ => true | .arr _ => true | _ => false
theorem sameO_self {x : Ob} (h : x.bd.flatB = true) : sameO (some x) (some x) = true := by
  obtain ⟨v, bd⟩ := x
  cases bd <;> simp [sameO, V.sameL_self, Bd.flatB] at h ⊢
theorem sameR_of {R : List Nat} {h h' : Heap} (h1 : ∀ o ∈ R, h'[o]? = h[o]?) (h2 : ∀ o ∈ R, ∀ y, h[o]? = some y → y.bd.flatB = true) : sameR R h h' = true := by
  unfold sameR
  rw [List.all_eq_true]
  intro o ho
  rw [h1 o ho]
  cases hy : h[o]? with
  | none => rfl
  | some y => exact sameO_self (h2 o ho y hy)
theorem merge_in {R : List Nat} {h h1 : Heap} {o : Nat} (ho : o ∈ R ∨ h.length ≤ o) : (mergeH R h h1)[o]? = h1[o]? := by
  rw [mergeH_get]
  have : inside R h.length o = true := by simpa [inside] using ho
  cases h1[o]? <;> simp [this]
theorem merge_out {R : List Nat} {h h1 : Heap} {o : Nat} (ho : o ∉ R) (hl : o < h.length) (hle : h.length ≤ h1.length) : (mergeH R h h1)[o]? = h[o]? := by
  rw [mergeH_get]
  have : inside R h.length o = false := by simp [inside, ho]; omega
  rw [List.getElem?_eq_getElem (show o < h1.length by omega), List.getElem?_eq_getElem hl]
  simp [this, List.getD_eq_getElem?_getD, hl]
end Go.Am
namespace Go.Am
theorem sxb : type_of% (And.intro (And.intro (And.intro (And.intro (And.intro (And.intro (And.intro (@sx_seq) (@sxL_succ)) (And.intro (@lpQ_norm) (@lpQ_exit))) (And.intro (And.intro (@lpQ_ret) (@loopQ_norm)) (And.intro (@loopQ_exit) (And.intro (@loopQ_ret) (@sqQ_norm))))) (And.intro (And.intro (And.intro (@sqQ_ret) (@sqQ_exit)) (And.intro (@sx_block) (@blkQ_norm))) (And.intro (And.intro (@blkQ_exit) (@blkQ_ret)) (And.intro (@sx_cond) (And.intro (@cdP_true) (@cdP_false)))))) (And.intro (And.intro (And.intro (And.intro (@cdP_bool) (@sx_region)) (And.intro (@sx_draw) (@sxo_nil))) (And.intro (And.intro (@sxo_cons) (@sxo_guard)) (And.intro (@gdS_bool) (And.intro (@gdS_eff) (@gdS_tup))))) (And.intro (And.intro (And.intro (@gdS_sel) (@gdS_seleff)) (And.intro (@sxK_def) (And.intro (@wcall_some) (@effP_ret)))) (And.intro (And.intro (@effP_set) (@effP_none)) (And.intro (@effP_ite) (And.intro (@wop_call) (@wop_cv))))))) (And.intro (And.intro (And.intro (And.intro (And.intro (@cvP_func) (@sx_ret)) (And.intro (@sx_exit) (@sx_skip))) (And.intro (And.intro (@sx_clr) (@sx_fresh)) (And.intro (@wantB_true) (And.intro (@wantB_false) (@impB_triv))))) (And.intro (And.intro (And.intro (@valOf_some) (@retH_some)) (And.intro (@pickO_true) (@pickO_false))) (And.intro (And.intro (@pickO_and) (@pickO_or)) (And.intro (@pickO_andr) (And.intro (@pickO_orr) (@pickO_orrn)))))) (And.intro (And.intro (And.intro (And.intro (@pickO_orn) (@pickO_bb)) (And.intro (@pickAnd_bool) (@pickOr_bool))) (And.intro (And.intro (@Bool.and_assoc) (@Bool.or_assoc)) (And.intro (@ev_fr) (And.intro (@ev_cst) (@put_none))))) (And.intro (And.intro (And.intro (@put_fr) (@not_false_eq_true)) (And.intro (@framed_pureF) (And.intro (@framed_fb) (@framed_N)))) (And.intro (And.intro (@framed_pure) (@wop_prim)) (And.intro (@Nat.zero_add) (And.intro (@Nat.add_zero) (@Nat.not_lt_zero)))))))) (And.intro (And.intro (And.intro (And.intro (And.intro (And.intro (@opt_bind_some) (@opt_map_some)) (And.intro (@opt_bind_none) (@opt_map_none))) (And.intro (And.intro (@sr_nil) (@sr_cons)) (And.intro (@sr_succ) (And.intro (@sr_all) (@sr_len))))) (And.intro (And.intro (And.intro (@retQ_ret) (@retQ_norm)) (And.intro (@fr_getD) (@shut_bool))) (And.intro (And.intro (@shut_int) (@V.bool.injEq)) (And.intro (@V.int.injEq) (And.intro (@Bool.not_true) (@Bool.not_false)))))) (And.intro (And.intro (And.intro (And.intro (@true_and) (@and_true)) (And.intro (@and_self) (@Bool.and_true))) (And.intro (And.intro (@Bool.and_false) (@Bool.true_and)) (And.intro (@Bool.false_and) (And.intro (@Bool.or_true) (@Bool.or_false))))) (And.intro (And.intro (And.intro (@Bool.true_or) (@Bool.false_or)) (And.intro (@Bool.false_eq_true) (And.intro (@shut_plain) (@freeL_cons)))) (And.intro (And.intro (@freeL_nil) (@free_int)) (And.intro (@free_bool) (And.intro (@free_agg) (@free_str))))))) (And.intro (And.intro (And.intro (And.intro (And.intro (@free_nils) (@free_tup)) (And.intro (@free_sl) (@true_implies))) (And.intro (And.intro (@false_implies) (@Nat.sub_zero)) (And.intro (@Int.natCast_nonneg) (And.intro (@Int.toNat_natCast) (@Nat.le_refl))))) (And.intro (And.intro (And.intro (@not_true_eq_false) (@wrap64)) (And.intro (@false_and) (@and_false))) (And.intro (And.intro (@Bool.cond_true_left) (@Bool.cond_false_right)) (And.intro (@decide_true) (And.intro (@decide_false) (@Int.cast_ofNat_Int)))))) (And.intro (And.intro (And.intro (And.intro (@Nat.mul_one) (@Bool.true_eq_false)) (And.intro (@Bool.not_eq_true) (@Bool.not_eq_false))) (And.intro (And.intro (@List.all_cons.{0}) (@List.all_nil.{0})) (And.intro (@List.isEmpty_nil.{0}) (And.intro (@List.isEmpty_cons.{0}) (@List.getElem?_cons_zero.{0}))))) (And.intro (And.intro (And.intro (@List.getElem?_cons_succ.{0}) (@List.set_cons_zero.{0})) (And.intro (@List.set_cons_succ.{0}) (And.intro (@List.map_cons.{0, 0}) (@List.map_nil.{0, 0})))) (And.intro (And.intro (@List.cons_append.{0}) (@List.nil_append.{0})) (And.intro (@List.length_cons.{0}) (And.intro (@List.length_nil.{0}) (@Option.some.injEq.{0}))))))))) := And.intro (And.intro (And.intro (And.intro (And.intro (And.intro (And.intro (@sx_seq) (@sxL_succ)) (And.intro (@lpQ_norm) (@lpQ_exit))) (And.intro (And.intro (@lpQ_ret) (@loopQ_norm)) (And.intro (@loopQ_exit) (And.intro (@loopQ_ret) (@sqQ_norm))))) (And.intro (And.intro (And.intro (@sqQ_ret) (@sqQ_exit)) (And.intro (@sx_block) (@blkQ_norm))) (And.intro (And.intro (@blkQ_exit) (@blkQ_ret)) (And.intro (@sx_cond) (And.intro (@cdP_true) (@cdP_false)))))) (And.intro (And.intro (And.intro (And.intro (@cdP_bool) (@sx_region)) (And.intro (@sx_draw) (@sxo_nil))) (And.intro (And.intro (@sxo_cons) (@sxo_guard)) (And.intro (@gdS_bool) (And.intro (@gdS_eff) (@gdS_tup))))) (And.intro (And.intro (And.intro (@gdS_sel) (@gdS_seleff)) (And.intro (@sxK_def) (And.intro (@wcall_some) (@effP_ret)))) (And.intro (And.intro (@effP_set) (@effP_none)) (And.intro (@effP_ite) (And.intro (@wop_call) (@wop_cv))))))) (And.intro (And.intro (And.intro (And.intro (And.intro (@cvP_func) (@sx_ret)) (And.intro (@sx_exit) (@sx_skip))) (And.intro (And.intro (@sx_clr) (@sx_fresh)) (And.intro (@wantB_true) (And.intro (@wantB_false) (@impB_triv))))) (And.intro (And.intro (And.intro (@valOf_some) (@retH_some)) (And.intro (@pickO_true) (@pickO_false))) (And.intro (And.intro (@pickO_and) (@pickO_or)) (And.intro (@pickO_andr) (And.intro (@pickO_orr) (@pickO_orrn)))))) (And.intro (And.intro (And.intro (And.intro (@pickO_orn) (@pickO_bb)) (And.intro (@pickAnd_bool) (@pickOr_bool))) (And.intro (And.intro (@Bool.and_assoc) (@Bool.or_assoc)) (And.intro (@ev_fr) (And.intro (@ev_cst) (@put_none))))) (And.intro (And.intro (And.intro (@put_fr) (@not_false_eq_true)) (And.intro (@framed_pureF) (And.intro (@framed_fb) (@framed_N)))) (And.intro (And.intro (@framed_pure) (@wop_prim)) (And.intro (@Nat.zero_add) (And.intro (@Nat.add_zero) (@Nat.not_lt_zero)))))))) (And.intro (And.intro (And.intro (And.intro (And.intro (And.intro (@opt_bind_some) (@opt_map_some)) (And.intro (@opt_bind_none) (@opt_map_none))) (And.intro (And.intro (@sr_nil) (@sr_cons)) (And.intro (@sr_succ) (And.intro (@sr_all) (@sr_len))))) (And.intro (And.intro (And.intro (@retQ_ret) (@retQ_norm)) (And.intro (@fr_getD) (@shut_bool))) (And.intro (And.intro (@shut_int) (@V.bool.injEq)) (And.intro (@V.int.injEq) (And.intro (@Bool.not_true) (@Bool.not_false)))))) (And.intro (And.intro (And.intro (And.intro (@true_and) (@and_true)) (And.intro (@and_self) (@Bool.and_true))) (And.intro (And.intro (@Bool.and_false) (@Bool.true_and)) (And.intro (@Bool.false_and) (And.intro (@Bool.or_true) (@Bool.or_false))))) (And.intro (And.intro (And.intro (@Bool.true_or) (@Bool.false_or)) (And.intro (@Bool.false_eq_true) (And.intro (@shut_plain) (@freeL_cons)))) (And.intro (And.intro (@freeL_nil) (@free_int)) (And.intro (@free_bool) (And.intro (@free_agg) (@free_str))))))) (And.intro (And.intro (And.intro (And.intro (And.intro (@free_nils) (@free_tup)) (And.intro (@free_sl) (@true_implies))) (And.intro (And.intro (@false_implies) (@Nat.sub_zero)) (And.intro (@Int.natCast_nonneg) (And.intro (@Int.toNat_natCast) (@Nat.le_refl))))) (And.intro (And.intro (And.intro (@not_true_eq_false) (@wrap64)) (And.intro (@false_and) (@and_false))) (And.intro (And.intro (@Bool.cond_true_left) (@Bool.cond_false_right)) (And.intro (@decide_true) (And.intro (@decide_false) (@Int.cast_ofNat_Int)))))) (And.intro (And.intro (And.intro (And.intro (@Nat.mul_one) (@Bool.true_eq_false)) (And.intro (@Bool.not_eq_true) (@Bool.not_eq_false))) (And.intro (And.intro (@List.all_cons.{0}) (@List.all_nil.{0})) (And.intro (@List.isEmpty_nil.{0}) (And.intro (@List.isEmpty_cons.{0}) (@List.getElem?_cons_zero.{0}))))) (And.intro (And.intro (And.intro (@List.getElem?_cons_succ.{0}) (@List.set_cons_zero.{0})) (And.intro (@List.set_cons_succ.{0}) (And.intro (@List.map_cons.{0, 0}) (@List.map_nil.{0, 0})))) (And.intro (And.intro (@List.cons_append.{0}) (@List.nil_append.{0})) (And.intro (@List.length_cons.{0}) (And.intro (@List.length_nil.{0}) (@Option.some.injEq.{0}))))))))
end Go.Am


set_option linter.unusedVariables false
set_option linter.unusedSimpArgs false
set_option maxRecDepth 10000
namespace Go.Am.T
attribute [local congr] selV_congr impB_congr
theorem lt_of_get {H : Heap} {o : Nat} {x : Ob} (h : H[o]? = some x) : o < H.length := by
  rcases Nat.lt_or_ge o H.length with h' | h'
  · exact h'
  · rw [List.getElem?_eq_none h'] at h; cases h
structure Dv where
  S : List (List Int)
  E : List Int
  n : Nat
  cut : Bool
  left : Int
  lost : Bool
  done : Int
def secV (s : List Int) : V := .agg (s.map (V.int .u8))
def Dv.cs (D : Dv) (X : V) : List V := X :: (D.E.map (V.int .i64) ++ [.int .i64 (D.n : Int), .bool D.cut, .int .i64 D.left, .bool D.lost, .int .i64 D.done])
structure Dv.Ok (D : Dv) : Prop where
  e8 : D.E.length = 8
  n1 : 1 ≤ D.n
  n8 : D.n ≤ 8
  s1 : 1 ≤ D.S.length
  s4 : D.S.length ≤ 4096
  sec : ∀ s ∈ D.S, s.length = 64
  l0 : D.cut = true → 0 ≤ D.left
  l1 : D.left ≤ 9223372036854775807
  z : ∀ i, D.n ≤ i → D.E.getD i 0 = 0
  eb : ∀ e ∈ D.E, 0 ≤ e ∧ e ≤ 2147483647
structure DAt (H : Heap) (d o : Nat) (D : Dv) : Prop where
  ok : D.Ok
  ob : ∃ ver cap, H[d]? = some ⟨1, .var (D.cs (.view o ver 0 D.S.length 64 cap))⟩ ∧ H[o]? = some ⟨ver, .arr (D.S.flatten.map (V.int .u8))⟩
  apart : d ≠ o
def Dv.seen (D : Dv) (cap : Option Nat) : V := .iptr (D.cs (.sl (D.S.map secV) 64 cap)) 0
section
variable {D : Dv} {X : V}
theorem dv_len (h : D.E.length = 8) : (D.cs X).length = 14 := by simp [Dv.cs, h]
theorem dv_e (h : D.E.length = 8) {i : Nat} (hi : i < 8) : List.take 1 (List.drop (1 + i) (D.cs X)) = [.int .i64 (D.E.getD i 0)] := by
  have hl : i < D.E.length := by omega
  have e : D.E[i]? = some D.E[i] := List.getElem?_eq_getElem hl
  rw [Dv.cs, show 1 + i = i + 1 by omega, List.drop_succ_cons, List.drop_append_of_le_length (by simp; omega), ← List.map_drop]
  rw [List.drop_eq_getElem_cons hl, List.getD_eq_getElem?_getD, e]
  rfl
theorem dv_n (h : D.E.length = 8) : List.take 1 (List.drop 9 (D.cs X)) = [.int .i64 (D.n : Int)] := by
  rw [Dv.cs, List.drop_succ_cons, List.drop_append, List.drop_eq_nil_of_le (by simp; omega)]
  simp [h]
theorem dv_cut (h : D.E.length = 8) : List.take 1 (List.drop 10 (D.cs X)) = [.bool D.cut] := by
  rw [Dv.cs, List.drop_succ_cons, List.drop_append, List.drop_eq_nil_of_le (by simp; omega)]
  simp [h]
theorem dv_left (h : D.E.length = 8) : List.take 1 (List.drop 11 (D.cs X)) = [.int .i64 D.left] := by
  rw [Dv.cs, List.drop_succ_cons, List.drop_append, List.drop_eq_nil_of_le (by simp; omega)]
  simp [h]
theorem dv_lost (h : D.E.length = 8) : List.take 1 (List.drop 12 (D.cs X)) = [.bool D.lost] := by
  rw [Dv.cs, List.drop_succ_cons, List.drop_append, List.drop_eq_nil_of_le (by simp; omega)]
  simp [h]
theorem dv_done (h : D.E.length = 8) : List.take 1 (List.drop 13 (D.cs X)) = [.int .i64 D.done] := by
  rw [Dv.cs, List.drop_succ_cons, List.drop_append, List.drop_eq_nil_of_le (by simp; omega)]
  simp [h]
end
theorem ints_free (k : IntKind) : ∀ l : List Int, V.freeL (l.map (V.int k)) = true
  | [] => rfl
  | x :: l => by show (true && V.freeL (l.map (V.int k))) = true; rw [ints_free k l]; rfl
theorem ints_plain (k : IntKind) : ∀ l : List Int, V.plainL (l.map (V.int k)) = true
  | [] => rfl
  | x :: l => by show (true && V.plainL (l.map (V.int k))) = true; rw [ints_plain k l]; rfl
theorem ints_one (k : IntKind) : ∀ l : List Int, (l.map (V.int k)).all V.oneCell = true
  | [] => rfl
  | x :: l => by show (true && (l.map (V.int k)).all V.oneCell) = true; rw [ints_one k l]; rfl
theorem mapM_self {f : V → Option V} : ∀ {l : List V}, (∀ x ∈ l, f x = some x) → l.mapM f = some l
  | [], _ => rfl
  | x :: l, h => by
    rw [List.mapM_cons, h x (by simp), mapM_self (l := l) fun y hy => h y (by simp [hy])]
    rfl
theorem secs_free (S : List (List Int)) : V.freeL (S.map secV) = true := by
  refine freeL_of_mem fun c hc => ?_
  obtain ⟨s, -, rfl⟩ := List.mem_map.1 hc
  exact ints_free .u8 s
theorem freeL_append : ∀ (a b : List V), V.freeL (a ++ b) = (V.freeL a && V.freeL b)
  | [], b => rfl
  | x :: a, b => by
    show (x.free && V.freeL (a ++ b)) = ((x.free && V.freeL a) && V.freeL b)
    rw [freeL_append a b, Bool.and_assoc]
theorem dv_free {D : Dv} {X : V} (h : X.free = true) : V.freeL (D.cs X) = true := by
  unfold Dv.cs
  rw [freeL_cons, h, freeL_append, ints_free]
  rfl
theorem sec_pieces : ∀ (S : List (List Int)), (∀ s ∈ S, s.length = 64) → (List.range S.length).map (fun i => wrapV (((S.flatten.map (V.int .u8)).drop (i * 64)).take 64)) = S.map secV
  | [], _ => rfl
  | s :: S, h => by
    have hs := h s (by simp)
    have ih := sec_pieces S fun t ht => h t (by simp [ht])
    have wr : wrapV (s.map (V.int .u8)) = secV s := by
      unfold secV
      match s, hs with
      | a :: b :: l, _ => rfl
    rw [List.length_cons, List.range_succ_eq_map, List.map_cons, List.map_cons, List.map_map]
    congr 1
    · rw [List.flatten_cons, List.map_append, Nat.zero_mul, List.drop_zero, List.take_append_of_le_length (by simp [hs]), List.take_of_length_le (by simp [hs]), wr]
    · rw [← ih]
      refine List.map_congr_left fun i _ => ?_
      show wrapV ((((s :: S).flatten.map (V.int .u8)).drop ((i + 1) * 64)).take 64) = _
      rw [List.flatten_cons, List.map_append, List.drop_append, List.drop_eq_nil_of_le (by simp; omega), List.nil_append, List.length_map, hs, show (i + 1) * 64 - 64 = i * 64 by omega]
theorem flat_len {S : List (List Int)} (h : ∀ s ∈ S, s.length = 64) : S.flatten.length = S.length * 64 := by
  induction S with
  | nil => rfl
  | cons s S ih =>
    rw [List.flatten_cons, List.length_append, h s (by simp), ih fun t ht => h t (by simp [ht]), List.length_cons]
    omega
theorem shut_secs {H : Heap} {o ver : Nat} {S : List (List Int)} {cap : Option Nat} (h : ∀ s ∈ S, s.length = 64) (ho : H[o]? = some ⟨ver, .arr (S.flatten.map (V.int .u8))⟩) (d : Nat) :
    V.shut (fun o => H[o]?) (d + 2) (.view o ver 0 S.length 64 cap) = some (.sl (S.map secV) 64 cap) := by
  have hl : loadA (fun o => H[o]?) (S.length * 64) (.ptr o ver 0) = some (S.flatten.map (V.int .u8)) := by
    simp only [loadA, cellsAt, ho, ↓reduceIte, Nat.zero_add, List.length_map, flat_len h, Nat.le_refl, List.drop_zero]
    rw [List.take_of_length_le (by rw [List.length_map, flat_len h]; exact Nat.le_refl _)]
  have hm : (S.flatten.map (V.int .u8)).mapM (V.shut (fun o => H[o]?) (d + 1)) = some (S.flatten.map (V.int .u8)) := mapM_self fun x hx => by
    obtain ⟨y, -, rfl⟩ := List.mem_map.1 hx
    exact shut_plain rfl
  show (if V.free (.view o ver 0 S.length 64 cap) = true then _ else _) = _
  rw [if_neg (by simp [V.free])]
  simp only [hl, hm, ints_one, ↓reduceIte, sec_pieces S h]
theorem DAt.shut {H : Heap} {d o : Nat} {D : Dv} (h : DAt H d o D) : ∃ cap, V.shut (fun o => H[o]?) sealDepth (.ptr d 1 0) = some (D.seen cap) := by
  obtain ⟨ver, cap, hd, ho⟩ := h.ob
  refine ⟨cap, ?_⟩
  have e : V.shut (fun o => H[o]?) sealDepth (.ptr d 1 0) = match cellsAt (fun o => H[o]?) d 1 with
      | some all => (all.mapM (V.shut (fun o => H[o]?) 63)).map fun cs => .iptr cs 0
      | none => none := rfl
  have hm : ∀ l : List V, (∀ x ∈ l, x.free = true) → l.mapM (V.shut (fun o => H[o]?) 63) = some l := fun l hl => mapM_self fun x hx => shut_plain (hl x hx)
  rw [e]
  simp only [cellsAt, hd, ↓reduceIte, Dv.cs, List.mapM_cons, shut_secs h.ok.sec ho 61]
  rw [hm _ fun x hx => ?_]
  · rfl
  · rcases List.mem_append.1 hx with hx | hx
    · obtain ⟨y, -, rfl⟩ := List.mem_map.1 hx; rfl
    · simp only [List.mem_cons, List.not_mem_nil, or_false] at hx
      rcases hx with rfl | rfl | rfl | rfl | rfl <;> rfl
def Looks (H : Heap) (x : V) (D : Dv) : Prop := D.Ok ∧ ∃ cap, V.shut (fun o => H[o]?) sealDepth x = some (D.seen cap)
theorem DAt.looks {H : Heap} {d o : Nat} {D : Dv} (h : DAt H d o D) : Looks H (.ptr d 1 0) D := ⟨h.ok, h.shut⟩
theorem looks_i {H : Heap} {D : Dv} (h : D.Ok) (cap : Option Nat) : Looks H (D.seen cap) D := ⟨h, cap, shut_plain (dv_free (secs_free _))⟩
end Go.Am.T


set_option linter.unusedVariables false
set_option linter.unusedSimpArgs false
set_option maxRecDepth 10000
namespace Go.Am.T
attribute [local congr] selV_congr impB_congr
theorem look_args1 {H : Heap} {x : V} {D : Dv} (h : Looks H x D) : ∃ cap, [x].mapM (V.shut (fun o => H[o]?) sealDepth) = some [D.seen cap] := by
  obtain ⟨-, cap, e⟩ := h
  exact ⟨cap, by rw [List.mapM_cons, e]; rfl⟩
theorem look_args2 {H : Heap} {x : V} {D : Dv} (h : Looks H x D) (i : Int) : ∃ cap, [x, .int .i64 i].mapM (V.shut (fun o => H[o]?) sealDepth) = some [D.seen cap, .int .i64 i] := by
  obtain ⟨-, cap, e⟩ := h
  exact ⟨cap, by rw [List.mapM_cons, e]; rfl⟩
theorem there_spec {N n : Nat} (hn : 1 ≤ n) {H : Heap} {x : V} {D : Dv} (h : Looks H x D) : callA am N n 48 [x] H = some (.bool true, H) := by
  obtain ⟨n, rfl⟩ : ∃ m, n = m + 1 := ⟨n - 1, by omega⟩
  obtain ⟨cap, ha⟩ := look_args1 h
  have ok := h.1
  have := ok.n1
  have g : decide ((D.n : Int) > 0) = true := decide_eq_true (by omega)
  have q1 := fun X => @dv_len D X ok.e8
  have q2 := fun X => @dv_n D X ok.e8
  refine call_look at48 rfl rfl (by decide) ha (sx_wp ?_)
  unfold Dv.seen
  simp +contextual -implicitDefEqProofs (maxSteps := 10000000) only [sxb, plainD, stays, ↓selV_wt, ↓selV_wf, ↓impB_wt, ↓impB_wf, ↓selV_nor, ↓impB_nor, ↓selV_nt, ↓selV_nf, ↓impB_nt, ↓impB_nf, ↓selV_true, ↓selV_false, ↓selV_and, ↓impB_true, ↓impB_false, ↓impB_and, ↓prim_pick, ↓selV_nn, ↓impB_nn, doOp, get, ins, del, dels, Nat.reduceLT, Nat.reduceEqDiff, ↓reduceIte, reduceCtorEq, ne_eq, implies_true, prim, YLD, mkA, V.cells, Nat.reduceAdd, Nat.reduceSub, Nat.reduceMul, Nat.reduceLeDiff, loadA, cellsAt, nAg, packA, List.drop, List.take, List.head?, binA, unA, eqCells, eqCell, negB, fillA, storeA, Ob.with, indexedI, V.oneCell, intOf?, resA, resA1, packR, sealDepth, Int.reduceLT, Int.reduceLE, Int.reduceToNat, Int.reduceNeg, Int.reduceAdd, Int.reduceSub, Int.reduceMul, cond_true, cond_false, Int.reduceBNe, Int.reduceBEq, eq_self, deads, List.replicate, argsF, am48, isNil, q1, q2, g, plain_bool]
theorem node_spec {N n : Nat} (hn : 1 ≤ n) {H : Heap} {x : V} {D : Dv} (h : Looks H x D) (i : Int) : callA am N n 50 [x, .int .i64 i] H = some (.bool (decide (i ≥ 0) && decide (i < (D.n : Int))), H) := by
  obtain ⟨n, rfl⟩ : ∃ m, n = m + 1 := ⟨n - 1, by omega⟩
  obtain ⟨cap, ha⟩ := look_args2 h i
  have ok := h.1
  have q1 := fun X => @dv_len D X ok.e8
  have q2 := fun X => @dv_n D X ok.e8
  refine call_look at50 rfl rfl (by decide) ha (sx_wp ?_)
  unfold Dv.seen
  simp +contextual -implicitDefEqProofs (maxSteps := 10000000) only [sxb, plainD, stays, ↓selV_wt, ↓selV_wf, ↓impB_wt, ↓impB_wf, ↓selV_nor, ↓impB_nor, ↓selV_nt, ↓selV_nf, ↓impB_nt, ↓impB_nf, ↓selV_true, ↓selV_false, ↓selV_and, ↓impB_true, ↓impB_false, ↓impB_and, ↓prim_pick, ↓selV_nn, ↓impB_nn, doOp, get, ins, del, dels, Nat.reduceLT, Nat.reduceEqDiff, ↓reduceIte, reduceCtorEq, ne_eq, implies_true, prim, YLD, mkA, V.cells, Nat.reduceAdd, Nat.reduceSub, Nat.reduceMul, Nat.reduceLeDiff, loadA, cellsAt, nAg, packA, List.drop, List.take, List.head?, binA, unA, eqCells, eqCell, negB, fillA, storeA, Ob.with, indexedI, V.oneCell, intOf?, resA, resA1, packR, sealDepth, Int.reduceLT, Int.reduceLE, Int.reduceToNat, Int.reduceNeg, Int.reduceAdd, Int.reduceSub, Int.reduceMul, cond_true, cond_false, Int.reduceBNe, Int.reduceBEq, eq_self, deads, List.replicate, argsF, am50, isNil, q1, q2, plain_bool]
theorem size_spec {N n : Nat} (hn : 2 ≤ n) {H : Heap} {x : V} {D : Dv} (h : Looks H x D) : callA am N n 32 [x] H = some (.int .i64 D.S.length, H) := by
  obtain ⟨n, rfl⟩ : ∃ m, n = m + 1 := ⟨n - 1, by omega⟩
  obtain ⟨cap, ha⟩ := look_args1 h
  have ok := h.1
  have q1 := fun X => @dv_len D X ok.e8
  have c48 := fun H => @there_spec N n (by omega) H _ _ (looks_i (H := H) ok cap)
  refine call_look at32 rfl rfl (by decide) ha (sx_wp ?_)
  unfold Dv.seen at *
  have q0 : ∀ X, List.take 1 (D.cs X) = [X] := fun X => rfl
  simp +contextual -implicitDefEqProofs (maxSteps := 10000000) only [sxb, plainD, stays, ↓selV_wt, ↓selV_wf, ↓impB_wt, ↓impB_wf, ↓selV_nor, ↓impB_nor, ↓selV_nt, ↓selV_nf, ↓impB_nt, ↓impB_nf, ↓selV_true, ↓selV_false, ↓selV_and, ↓impB_true, ↓impB_false, ↓impB_and, ↓prim_pick, ↓selV_nn, ↓impB_nn, doOp, get, ins, del, dels, Nat.reduceLT, Nat.reduceEqDiff, ↓reduceIte, reduceCtorEq, ne_eq, implies_true, prim, YLD, mkA, V.cells, Nat.reduceAdd, Nat.reduceSub, Nat.reduceMul, Nat.reduceLeDiff, loadA, cellsAt, nAg, packA, List.drop, List.take, List.head?, binA, unA, eqCells, eqCell, negB, fillA, storeA, Ob.with, indexedI, V.oneCell, intOf?, resA, resA1, packR, sealDepth, Int.reduceLT, Int.reduceLE, Int.reduceToNat, Int.reduceNeg, Int.reduceAdd, Int.reduceSub, Int.reduceMul, cond_true, cond_false, Int.reduceBNe, Int.reduceBEq, eq_self, deads, List.replicate, argsF, am32, isNil, c48, q1, q0, lenA, List.length_map, plain_int]
def Dv.isNode (D : Dv) (i : Int) : Bool := decide (i ≥ 0) && decide (i < (D.n : Int))
def Dv.ep (D : Dv) (i : Int) : Int := D.E.getD i.toNat 0
theorem isNode_true {D : Dv} {i : Int} (h : D.isNode i = true) : 0 ≤ i ∧ i < D.n := by
  simpa [Dv.isNode] using h
theorem epoch_spec {N n : Nat} (hn : 2 ≤ n) {H : Heap} {x : V} {D : Dv} (h : Looks H x D) (i : Int) : callA am N n 19 [x, .int .i64 i] H = some (.tup (bif D.isNode i then [.int .i64 (D.ep i), .int .i64 0] else [.int .i64 0, .int .i64 2]), H) := by
  obtain ⟨n, rfl⟩ : ∃ m, n = m + 1 := ⟨n - 1, by omega⟩
  obtain ⟨cap, ha⟩ := look_args2 h i
  have ok := h.1
  have q1 := fun X => @dv_len D X ok.e8
  have c48 := fun H => @there_spec N n (by omega) H _ _ (looks_i (H := H) ok cap)
  have c50 := fun H => @node_spec N n (by omega) H _ _ (looks_i (H := H) ok cap) i
  rw [show (decide (i ≥ 0) && decide (i < (D.n : Int))) = D.isNode i from rfl] at c50
  refine call_look at19 rfl rfl (by decide) ha (sx_wp ?_)
  unfold Dv.seen at *
  cases g : D.isNode i with
  | false =>
    simp +contextual -implicitDefEqProofs (maxSteps := 10000000) only [sxb, plainD, stays, ↓selV_wt, ↓selV_wf, ↓impB_wt, ↓impB_wf, ↓selV_nor, ↓impB_nor, ↓selV_nt, ↓selV_nf, ↓impB_nt, ↓impB_nf, ↓selV_true, ↓selV_false, ↓selV_and, ↓impB_true, ↓impB_false, ↓impB_and, ↓prim_pick, ↓selV_nn, ↓impB_nn, doOp, get, ins, del, dels, Nat.reduceLT, Nat.reduceEqDiff, ↓reduceIte, reduceCtorEq, ne_eq, implies_true, prim, YLD, mkA, V.cells, Nat.reduceAdd, Nat.reduceSub, Nat.reduceMul, Nat.reduceLeDiff, loadA, cellsAt, nAg, packA, List.drop, List.take, List.head?, binA, unA, eqCells, eqCell, negB, fillA, storeA, Ob.with, indexedI, V.oneCell, intOf?, resA, resA1, packR, sealDepth, Int.reduceLT, Int.reduceLE, Int.reduceToNat, Int.reduceNeg, Int.reduceAdd, Int.reduceSub, Int.reduceMul, cond_true, cond_false, Int.reduceBNe, Int.reduceBEq, eq_self, deads, List.replicate, argsF, am19, isNil, c48, c50, g]
    rfl
  | true =>
    obtain ⟨g1, g2⟩ := isNode_true g
    have := ok.n8
    have i8 : i < 8 := by omega
    have i7 : 1 + i.toNat + 1 ≤ 14 := by omega
    have q2 := fun X => @dv_e D X ok.e8 i.toNat (by omega)
    simp +contextual -implicitDefEqProofs (maxSteps := 10000000) only [sxb, plainD, stays, ↓selV_wt, ↓selV_wf, ↓impB_wt, ↓impB_wf, ↓selV_nor, ↓impB_nor, ↓selV_nt, ↓selV_nf, ↓impB_nt, ↓impB_nf, ↓selV_true, ↓selV_false, ↓selV_and, ↓impB_true, ↓impB_false, ↓impB_and, ↓prim_pick, ↓selV_nn, ↓impB_nn, doOp, get, ins, del, dels, Nat.reduceLT, Nat.reduceEqDiff, ↓reduceIte, reduceCtorEq, ne_eq, implies_true, prim, YLD, mkA, V.cells, Nat.reduceAdd, Nat.reduceSub, Nat.reduceMul, Nat.reduceLeDiff, loadA, cellsAt, nAg, packA, List.drop, List.take, List.head?, binA, unA, eqCells, eqCell, negB, fillA, storeA, Ob.with, indexedI, V.oneCell, intOf?, resA, resA1, packR, sealDepth, Int.reduceLT, Int.reduceLE, Int.reduceToNat, Int.reduceNeg, Int.reduceAdd, Int.reduceSub, Int.reduceMul, cond_true, cond_false, Int.reduceBNe, Int.reduceBEq, eq_self, deads, List.replicate, argsF, am19, isNil, c48, c50, g, q1, q2, g1, i8, i7]
    exact ⟨rfl, rfl⟩
def zeroS : List Int := List.replicate 64 0
def Dv.isSec (D : Dv) (i : Int) : Bool := decide (i ≥ 0) && decide (i < (D.S.length : Int))
def Dv.at (D : Dv) (i : Int) : List Int := D.S.getD i.toNat zeroS
theorem read_spec {N n : Nat} (hn : 2 ≤ n) {H : Heap} {x : V} {D : Dv} (h : Looks H x D) (i : Int) : callA am N n 26 [x, .int .i64 i] H = some (.tup (bif D.isSec i then [secV (D.at i), .int .i64 0] else [secV zeroS, .int .i64 2]), H) := by
  obtain ⟨n, rfl⟩ : ∃ m, n = m + 1 := ⟨n - 1, by omega⟩
  obtain ⟨cap, ha⟩ := look_args2 h i
  have ok := h.1
  have q1 := fun X => @dv_len D X ok.e8
  have q0 : ∀ X, List.take 1 (D.cs X) = [X] := fun X => rfl
  have c48 := fun H => @there_spec N n (by omega) H _ _ (looks_i (H := H) ok cap)
  have hL : (D.S.map secV).length = D.S.length := List.length_map ..
  refine call_look at26 rfl rfl (by decide) ha (sx_wp ?_)
  unfold Dv.seen at *
  by_cases g1 : i < 0
  · have g : decide (i < 0) = true := decide_eq_true g1
    have g2 : D.isSec i = false := by simp [Dv.isSec]; omega
    simp +contextual -implicitDefEqProofs (maxSteps := 10000000) only [sxb, plainD, stays, ↓selV_wt, ↓selV_wf, ↓impB_wt, ↓impB_wf, ↓selV_nor, ↓impB_nor, ↓selV_nt, ↓selV_nf, ↓impB_nt, ↓impB_nf, ↓selV_true, ↓selV_false, ↓selV_and, ↓impB_true, ↓impB_false, ↓impB_and, ↓prim_pick, ↓selV_nn, ↓impB_nn, doOp, get, ins, del, dels, Nat.reduceLT, Nat.reduceEqDiff, ↓reduceIte, reduceCtorEq, ne_eq, implies_true, prim, YLD, mkA, V.cells, Nat.reduceAdd, Nat.reduceSub, Nat.reduceMul, Nat.reduceLeDiff, loadA, cellsAt, nAg, packA, List.drop, List.take, List.head?, binA, unA, eqCells, eqCell, negB, fillA, storeA, Ob.with, indexedI, V.oneCell, intOf?, resA, resA1, packR, sealDepth, Int.reduceLT, Int.reduceLE, Int.reduceToNat, Int.reduceNeg, Int.reduceAdd, Int.reduceSub, Int.reduceMul, cond_true, cond_false, Int.reduceBNe, Int.reduceBEq, eq_self, deads, List.replicate, argsF, am26, isNil, c48, g, g2]
    exact ⟨rfl, rfl⟩
  · have g : decide (i < 0) = false := decide_eq_false g1
    by_cases g2 : i < (D.S.length : Int)
    · have g3 : decide (i ≥ (D.S.length : Int)) = false := decide_eq_false (by omega)
      have g4 : D.isSec i = true := by simp [Dv.isSec]; omega
      have g5 : 0 ≤ i := by omega
      have hlt : i.toNat < D.S.length := by omega
      have q2 : (D.S.map secV)[i.toNat]? = some (secV (D.at i)) := by
        rw [List.getElem?_map, List.getElem?_eq_getElem hlt, Dv.at, List.getD_eq_getElem?_getD, List.getElem?_eq_getElem hlt]; rfl
      have h64 : (D.at i).length = 64 := by
        rw [Dv.at, List.getD_eq_getElem?_getD, List.getElem?_eq_getElem hlt]
        exact ok.sec _ (List.getElem_mem hlt)
      have ce : (secV (D.at i)).cells = (D.at i).map (V.int .u8) := rfl
      have t64 : List.take 64 ((D.at i).map (V.int .u8)) = (D.at i).map (V.int .u8) := List.take_of_length_le (by simp [h64])
      have o64 := ints_one .u8 (D.at i)
      have l64 : ((D.at i).map (V.int .u8)).length = 64 := by simp [h64]
      have hia : iaddrSA 64 (.sl (D.S.map secV) 64 cap) (.int .i64 i) = some (.ret (.iptr ((D.at i).map (V.int .u8)) 0)) := by
        simp only [iaddrSA, ↓reduceIte, indexedI, hL, g5, g2, Option.bind_some, q2, Option.map_some, ce]
      have sr := fun (z : List V) (hz : z.length = 64) => @sr_all z ((D.at i).map (V.int .u8)) (by rw [l64, hz])
      simp +contextual -implicitDefEqProofs (maxSteps := 10000000) only [sxb, plainD, stays, ↓selV_wt, ↓selV_wf, ↓impB_wt, ↓impB_wf, ↓selV_nor, ↓impB_nor, ↓selV_nt, ↓selV_nf, ↓impB_nt, ↓impB_nf, ↓selV_true, ↓selV_false, ↓selV_and, ↓impB_true, ↓impB_false, ↓impB_and, ↓prim_pick, ↓selV_nn, ↓impB_nn, doOp, get, ins, del, dels, Nat.reduceLT, Nat.reduceEqDiff, ↓reduceIte, reduceCtorEq, ne_eq, implies_true, prim, YLD, mkA, V.cells, Nat.reduceAdd, Nat.reduceSub, Nat.reduceMul, Nat.reduceLeDiff, loadA, cellsAt, nAg, packA, List.drop, List.take, List.head?, binA, unA, eqCells, eqCell, negB, fillA, storeA, Ob.with, indexedI, V.oneCell, intOf?, resA, resA1, packR, sealDepth, Int.reduceLT, Int.reduceLE, Int.reduceToNat, Int.reduceNeg, Int.reduceAdd, Int.reduceSub, Int.reduceMul, cond_true, cond_false, Int.reduceBNe, Int.reduceBEq, eq_self, deads, List.replicate, argsF, am26, isNil, c48, g, g3, g4, q0, q1, lenA, hL, hia, t64, o64, l64, sr]
      refine ⟨rfl, ?_⟩
      show (V.plainL ((D.at i).map (V.int .u8)) && true) = true
      rw [ints_plain]; rfl
    · have g3 : decide (i ≥ (D.S.length : Int)) = true := decide_eq_true (by omega)
      have g4 : D.isSec i = false := by simp [Dv.isSec]; omega
      simp +contextual -implicitDefEqProofs (maxSteps := 10000000) only [sxb, plainD, stays, ↓selV_wt, ↓selV_wf, ↓impB_wt, ↓impB_wf, ↓selV_nor, ↓impB_nor, ↓selV_nt, ↓selV_nf, ↓impB_nt, ↓impB_nf, ↓selV_true, ↓selV_false, ↓selV_and, ↓impB_true, ↓impB_false, ↓impB_and, ↓prim_pick, ↓selV_nn, ↓impB_nn, doOp, get, ins, del, dels, Nat.reduceLT, Nat.reduceEqDiff, ↓reduceIte, reduceCtorEq, ne_eq, implies_true, prim, YLD, mkA, V.cells, Nat.reduceAdd, Nat.reduceSub, Nat.reduceMul, Nat.reduceLeDiff, loadA, cellsAt, nAg, packA, List.drop, List.take, List.head?, binA, unA, eqCells, eqCell, negB, fillA, storeA, Ob.with, indexedI, V.oneCell, intOf?, resA, resA1, packR, sealDepth, Int.reduceLT, Int.reduceLE, Int.reduceToNat, Int.reduceNeg, Int.reduceAdd, Int.reduceSub, Int.reduceMul, cond_true, cond_false, Int.reduceBNe, Int.reduceBEq, eq_self, deads, List.replicate, argsF, am26, isNil, c48, g, g3, g4, q0, q1, lenA, hL]
      exact ⟨rfl, rfl⟩
end Go.Am.T


set_option linter.unusedVariables false
set_option linter.unusedSimpArgs false
set_option maxRecDepth 10000
namespace Go.Am.T
attribute [local congr] selV_congr impB_congr
def Dv.rl (D : Dv) : Int := bif D.cut then D.left else -1
def Dv.eps (D : Dv) : List Int := D.E.take D.n
def Dv.rcs (D : Dv) (X Y : V) : List V := [X, Y, .int .i64 D.rl, .bool D.lost, .int .i64 D.done]
structure RAt (H : Heap) (r s e : Nat) (D : Dv) : Prop where
  ok : D.Ok
  ob : ∃ ver cap ver' cap', H[r]? = some ⟨1, .var (D.rcs (.view s ver 0 D.S.length 64 cap) (.view e ver' 0 D.n 1 cap'))⟩ ∧ H[s]? = some ⟨ver, .arr (D.S.flatten.map (V.int .u8))⟩ ∧ H[e]? = some ⟨ver', .arr (D.eps.map (V.int .i64))⟩
  rs : r ≠ s
  re : r ≠ e
  se : s ≠ e
theorem eps_len {D : Dv} (h : D.Ok) : D.eps.length = D.n := by
  have := h.e8
  have := h.n8
  simp [Dv.eps]; omega
theorem eps_at {D : Dv} (h : D.Ok) {i : Nat} (hi : i < D.n) : D.eps[i]? = some (D.E.getD i 0) := by
  have := h.e8
  have := h.n8
  have hl : i < D.E.length := by omega
  rw [Dv.eps, List.getElem?_take, if_pos hi, List.getD_eq_getElem?_getD, List.getElem?_eq_getElem hl]; rfl
def Dv.rseen (D : Dv) (cap cap' : Option Nat) : V := .iptr (D.rcs (.sl (D.S.map secV) 64 cap) (.sl (D.eps.map (V.int .i64)) 1 cap')) 0
theorem one_pieces (k : IntKind) (l : List Int) : (List.range l.length).map (fun i => wrapV (((l.map (V.int k)).drop (i * 1)).take 1)) = l.map (V.int k) := by
  refine List.ext_getElem? fun i => ?_
  rw [List.getElem?_map, List.getElem?_map]
  by_cases hi : i < l.length
  · rw [List.getElem?_range hi, List.getElem?_eq_getElem hi]
    simp only [Option.map_some, Nat.mul_one]
    rw [← List.map_drop, List.drop_eq_getElem_cons hi]
    rfl
  · rw [List.getElem?_eq_none (by simpa using hi), List.getElem?_eq_none (by omega)]; rfl
theorem shut_ints {H : Heap} {o ver : Nat} {k : IntKind} {l : List Int} {cap : Option Nat} (ho : H[o]? = some ⟨ver, .arr (l.map (V.int k))⟩) (d : Nat) :
    V.shut (fun o => H[o]?) (d + 2) (.view o ver 0 l.length 1 cap) = some (.sl (l.map (V.int k)) 1 cap) := by
  have hl : loadA (fun o => H[o]?) (l.length * 1) (.ptr o ver 0) = some (l.map (V.int k)) := by
    simp only [loadA, cellsAt, ho, ↓reduceIte, Nat.zero_add, List.length_map, Nat.mul_one, Nat.le_refl, List.drop_zero]
    rw [List.take_of_length_le (by rw [List.length_map]; exact Nat.le_refl _)]
  have hm : (l.map (V.int k)).mapM (V.shut (fun o => H[o]?) (d + 1)) = some (l.map (V.int k)) := mapM_self fun x hx => by
    obtain ⟨y, -, rfl⟩ := List.mem_map.1 hx
    exact shut_plain rfl
  show (if V.free (.view o ver 0 l.length 1 cap) = true then _ else _) = _
  rw [if_neg (by simp [V.free])]
  simp only [hl, hm, ints_one, ↓reduceIte, one_pieces k l]
theorem RAt.shut {H : Heap} {r s e : Nat} {D : Dv} (h : RAt H r s e D) : ∃ cap cap', V.shut (fun o => H[o]?) sealDepth (.ptr r 1 0) = some (D.rseen cap cap') := by
  obtain ⟨ver, cap, ver', cap', hr, hs, he⟩ := h.ob
  refine ⟨cap, cap', ?_⟩
  have e : V.shut (fun o => H[o]?) sealDepth (.ptr r 1 0) = match cellsAt (fun o => H[o]?) r 1 with
      | some all => (all.mapM (V.shut (fun o => H[o]?) 63)).map fun cs => .iptr cs 0
      | none => none := rfl
  have q := shut_ints (cap := cap') he 61
  rw [eps_len h.ok] at q
  have hp : ∀ v : V, v.free = true → V.shut (fun o => H[o]?) 63 v = some v := fun v hv => shut_plain (d := 62) hv
  rw [e]
  simp only [cellsAt, hr, ↓reduceIte, Dv.rcs, List.mapM_cons, List.mapM_nil, shut_secs h.ok.sec hs 61, q, hp (.int .i64 _) rfl, hp (.bool _) rfl, Option.bind_eq_bind, Option.bind_some, Option.pure_def, Option.map_some]
  rfl
def RLooks (H : Heap) (x : V) (D : Dv) : Prop := D.Ok ∧ ∃ cap cap', V.shut (fun o => H[o]?) sealDepth x = some (D.rseen cap cap')
theorem RAt.looks {H : Heap} {r s e : Nat} {D : Dv} (h : RAt H r s e D) : RLooks H (.ptr r 1 0) D := ⟨h.ok, h.shut⟩
theorem rlook_args2 {H : Heap} {x : V} {D : Dv} (h : RLooks H x D) (i : Int) : ∃ cap cap', [x, .int .i64 i].mapM (V.shut (fun o => H[o]?) sealDepth) = some [D.rseen cap cap', .int .i64 i] := by
  obtain ⟨-, cap, cap', e⟩ := h
  exact ⟨cap, cap', by rw [List.mapM_cons, e]; rfl⟩
theorem rlook_args3 {H : Heap} {x : V} {D : Dv} (h : RLooks H x D) (i j : Int) : ∃ cap cap', [x, .int .i64 i, .int .i64 j].mapM (V.shut (fun o => H[o]?) sealDepth) = some [D.rseen cap cap', .int .i64 i, .int .i64 j] := by
  obtain ⟨-, cap, cap', e⟩ := h
  exact ⟨cap, cap', by rw [List.mapM_cons, e]; rfl⟩
theorem ep_at {D : Dv} (h : D.Ok) {i : Int} (h0 : 0 ≤ i) (h1 : i < (D.n : Int)) (cap : Option Nat) : iaddrSA 1 (.sl (D.eps.map (V.int .i64)) 1 cap) (.int .i64 i) = some (.ret (.iptr [.int .i64 (D.ep i)] 0)) := by
  have hl : (D.eps.map (V.int .i64)).length = D.n := by rw [List.length_map, eps_len h]
  have hlt : i.toNat < D.n := by omega
  have q : (D.eps.map (V.int .i64))[i.toNat]? = some (.int .i64 (D.ep i)) := by rw [List.getElem?_map, eps_at h hlt]; rfl
  simp only [iaddrSA, ↓reduceIte, indexedI, hl, h0, h1, Option.bind_some, q, Option.map_some]
  rfl
theorem repoch_spec {N n : Nat} (hn : 1 ≤ n) {H : Heap} {x : V} {D : Dv} (h : RLooks H x D) (i : Int) : callA am N n 37 [x, .int .i64 i] H = some (.tup (bif D.isNode i then [.int .i64 (D.ep i), .int .i64 0] else [.int .i64 0, .int .i64 2]), H) := by
  obtain ⟨n, rfl⟩ : ∃ m, n = m + 1 := ⟨n - 1, by omega⟩
  obtain ⟨cap, cap', ha⟩ := rlook_args2 h i
  have ok := h.1
  have hL : (D.eps.map (V.int .i64)).length = D.n := by rw [List.length_map, eps_len ok]
  refine call_look at37 rfl rfl (by decide) ha (sx_wp ?_)
  unfold Dv.rseen Dv.rcs at *
  by_cases g1 : i < 0
  · have g : decide (i < 0) = true := decide_eq_true g1
    have g2 : D.isNode i = false := by simp [Dv.isNode]; omega
    simp +contextual -implicitDefEqProofs (maxSteps := 10000000) only [sxb, plainD, stays, ↓selV_wt, ↓selV_wf, ↓impB_wt, ↓impB_wf, ↓selV_nor, ↓impB_nor, ↓selV_nt, ↓selV_nf, ↓impB_nt, ↓impB_nf, ↓selV_true, ↓selV_false, ↓selV_and, ↓impB_true, ↓impB_false, ↓impB_and, ↓prim_pick, ↓selV_nn, ↓impB_nn, doOp, get, ins, del, dels, Nat.reduceLT, Nat.reduceEqDiff, ↓reduceIte, reduceCtorEq, ne_eq, implies_true, prim, YLD, mkA, V.cells, Nat.reduceAdd, Nat.reduceSub, Nat.reduceMul, Nat.reduceLeDiff, loadA, cellsAt, nAg, packA, List.drop, List.take, List.head?, binA, unA, eqCells, eqCell, negB, fillA, storeA, Ob.with, indexedI, V.oneCell, intOf?, resA, resA1, packR, sealDepth, Int.reduceLT, Int.reduceLE, Int.reduceToNat, Int.reduceNeg, Int.reduceAdd, Int.reduceSub, Int.reduceMul, cond_true, cond_false, Int.reduceBNe, Int.reduceBEq, eq_self, deads, List.replicate, argsF, am37, isNil, g, g2]
    rfl
  · have g : decide (i < 0) = false := decide_eq_false g1
    by_cases g2 : i < (D.n : Int)
    · have g3 : decide (i ≥ (D.n : Int)) = false := decide_eq_false (by omega)
      have g4 : D.isNode i = true := by simp [Dv.isNode]; omega
      have q := fun cap => ep_at ok (by omega : 0 ≤ i) g2 cap
      simp +contextual -implicitDefEqProofs (maxSteps := 10000000) only [sxb, plainD, stays, ↓selV_wt, ↓selV_wf, ↓impB_wt, ↓impB_wf, ↓selV_nor, ↓impB_nor, ↓selV_nt, ↓selV_nf, ↓impB_nt, ↓impB_nf, ↓selV_true, ↓selV_false, ↓selV_and, ↓impB_true, ↓impB_false, ↓impB_and, ↓prim_pick, ↓selV_nn, ↓impB_nn, doOp, get, ins, del, dels, Nat.reduceLT, Nat.reduceEqDiff, ↓reduceIte, reduceCtorEq, ne_eq, implies_true, prim, YLD, mkA, V.cells, Nat.reduceAdd, Nat.reduceSub, Nat.reduceMul, Nat.reduceLeDiff, loadA, cellsAt, nAg, packA, List.drop, List.take, List.head?, binA, unA, eqCells, eqCell, negB, fillA, storeA, Ob.with, indexedI, V.oneCell, intOf?, resA, resA1, packR, sealDepth, Int.reduceLT, Int.reduceLE, Int.reduceToNat, Int.reduceNeg, Int.reduceAdd, Int.reduceSub, Int.reduceMul, cond_true, cond_false, Int.reduceBNe, Int.reduceBEq, eq_self, deads, List.replicate, argsF, am37, isNil, g, g3, g4, lenA, hL, q]
      rfl
    · have g3 : decide (i ≥ (D.n : Int)) = true := decide_eq_true (by omega)
      have g4 : D.isNode i = false := by simp [Dv.isNode]; omega
      simp +contextual -implicitDefEqProofs (maxSteps := 10000000) only [sxb, plainD, stays, ↓selV_wt, ↓selV_wf, ↓impB_wt, ↓impB_wf, ↓selV_nor, ↓impB_nor, ↓selV_nt, ↓selV_nf, ↓impB_nt, ↓impB_nf, ↓selV_true, ↓selV_false, ↓selV_and, ↓impB_true, ↓impB_false, ↓impB_and, ↓prim_pick, ↓selV_nn, ↓impB_nn, doOp, get, ins, del, dels, Nat.reduceLT, Nat.reduceEqDiff, ↓reduceIte, reduceCtorEq, ne_eq, implies_true, prim, YLD, mkA, V.cells, Nat.reduceAdd, Nat.reduceSub, Nat.reduceMul, Nat.reduceLeDiff, loadA, cellsAt, nAg, packA, List.drop, List.take, List.head?, binA, unA, eqCells, eqCell, negB, fillA, storeA, Ob.with, indexedI, V.oneCell, intOf?, resA, resA1, packR, sealDepth, Int.reduceLT, Int.reduceLE, Int.reduceToNat, Int.reduceNeg, Int.reduceAdd, Int.reduceSub, Int.reduceMul, cond_true, cond_false, Int.reduceBNe, Int.reduceBEq, eq_self, deads, List.replicate, argsF, am37, isNil, g, g3, g4, lenA, hL]
      rfl
theorem sec_at {D : Dv} (h : D.Ok) {i : Int} (h0 : 0 ≤ i) (h1 : i < (D.S.length : Int)) (cap : Option Nat) : iaddrSA 64 (.sl (D.S.map secV) 64 cap) (.int .i64 i) = some (.ret (.iptr ((D.at i).map (V.int .u8)) 0)) ∧ (D.at i).length = 64 := by
  have hL : (D.S.map secV).length = D.S.length := List.length_map ..
  have hlt : i.toNat < D.S.length := by omega
  have q2 : (D.S.map secV)[i.toNat]? = some (secV (D.at i)) := by
    rw [List.getElem?_map, List.getElem?_eq_getElem hlt, Dv.at, List.getD_eq_getElem?_getD, List.getElem?_eq_getElem hlt]; rfl
  refine ⟨?_, ?_⟩
  · simp only [iaddrSA, ↓reduceIte, indexedI, hL, h0, h1, Option.bind_some, q2, Option.map_some]
    rfl
  · rw [Dv.at, List.getD_eq_getElem?_getD, List.getElem?_eq_getElem hlt]
    exact h.sec _ (List.getElem_mem hlt)
end Go.Am.T


set_option linter.unusedVariables false
set_option linter.unusedSimpArgs false
set_option maxRecDepth 10000
namespace Go.Am.T
attribute [local congr] selV_congr impB_congr
theorem e8_cases {l : List Int} (h : l.length = 8) : ∃ a b c d e f g i, l = [a, b, c, d, e, f, g, i] := by
  match l, h with
  | [a, b, c, d, e, f, g, i], _ => exact ⟨a, b, c, d, e, f, g, i, rfl⟩
section
variable {D : Dv} {X : V}
theorem dv_setCut (h : D.E.length = 8) (v : Bool) : setRange (D.cs X) 10 [.bool v] = ({ D with cut := v } : Dv).cs X := by
  obtain ⟨S, E, n, cut, left, lost, done⟩ := D
  obtain ⟨e0, e1, e2, e3, e4, e5, e6, e7, rfl⟩ := e8_cases h
  rfl
theorem dv_setLeft (h : D.E.length = 8) (v : Int) : setRange (D.cs X) 11 [.int .i64 v] = ({ D with left := v } : Dv).cs X := by
  obtain ⟨S, E, n, cut, left, lost, done⟩ := D
  obtain ⟨e0, e1, e2, e3, e4, e5, e6, e7, rfl⟩ := e8_cases h
  rfl
theorem dv_setLost (h : D.E.length = 8) (v : Bool) : setRange (D.cs X) 12 [.bool v] = ({ D with lost := v } : Dv).cs X := by
  obtain ⟨S, E, n, cut, left, lost, done⟩ := D
  obtain ⟨e0, e1, e2, e3, e4, e5, e6, e7, rfl⟩ := e8_cases h
  rfl
theorem dv_setDone (h : D.E.length = 8) (v : Int) : setRange (D.cs X) 13 [.int .i64 v] = ({ D with done := v } : Dv).cs X := by
  obtain ⟨S, E, n, cut, left, lost, done⟩ := D
  obtain ⟨e0, e1, e2, e3, e4, e5, e6, e7, rfl⟩ := e8_cases h
  rfl
theorem dv_setE (h : D.E.length = 8) {i : Nat} (hi : i < 8) (v : Int) : setRange (D.cs X) (1 + i) [.int .i64 v] = ({ D with E := D.E.set i v } : Dv).cs X := by
  obtain ⟨S, E, n, cut, left, lost, done⟩ := D
  obtain ⟨e0, e1, e2, e3, e4, e5, e6, e7, rfl⟩ := e8_cases h
  match i, hi with
  | 0, _ => rfl
  | 1, _ => rfl
  | 2, _ => rfl
  | 3, _ => rfl
  | 4, _ => rfl
  | 5, _ => rfl
  | 6, _ => rfl
  | 7, _ => rfl
end
def Dv.lose (D : Dv) : Dv := { D with lost := true }
def Dv.tick (D : Dv) : Dv := { D with left := bif D.cut then D.left - 1 else D.left, done := IntKind.i64.wrap (D.done + 1) }
def Dv.out (D : Dv) : Bool := D.cut && (D.left == 0)
theorem Dv.Ok.lose {D : Dv} (h : D.Ok) : D.lose.Ok := ⟨h.e8, h.n1, h.n8, h.s1, h.s4, h.sec, h.l0, h.l1, h.z, h.eb⟩
theorem Dv.Ok.tick {D : Dv} (h : D.Ok) (ho : D.out = false) : D.tick.Ok := by
  have := h.l1
  refine ⟨h.e8, h.n1, h.n8, h.s1, h.s4, h.sec, fun hc => ?_, ?_, h.z, h.eb⟩
  · have hc' : D.cut = true := hc
    have := h.l0 hc'
    have e : D.tick.left = D.left - 1 := by simp [Dv.tick, hc']
    simp [Dv.out, hc'] at ho
    omega
  · unfold Dv.tick
    cases hc : D.cut with
    | false => exact h.l1
    | true => show D.left - 1 ≤ _; omega
def Dv.who (D : Dv) (i e : Int) (more : Bool) : Int :=
  bif (!D.isNode i || (decide (e < 0) || (decide (e > D.ep i) || !more))) then 2 else (bif decide (e < D.ep i) then 8 else 0)
theorem who_spec {N n : Nat} (hn : 2 ≤ n) {H : Heap} {x : V} {D : Dv} (h : Looks H x D) (i e : Int) (more : Bool) : callA am N n 52 [x, .int .i64 i, .int .i64 e, .bool more] H = some (.int .i64 (D.who i e more), H) := by
  obtain ⟨n, rfl⟩ : ∃ m, n = m + 1 := ⟨n - 1, by omega⟩
  obtain ⟨-, cap, he⟩ := id h
  have ha : [x, .int .i64 i, .int .i64 e, .bool more].mapM (V.shut (fun o => H[o]?) sealDepth) = some [D.seen cap, .int .i64 i, .int .i64 e, .bool more] := by rw [List.mapM_cons, he]; rfl
  have ok := h.1
  have q1 := fun X => @dv_len D X ok.e8
  have c48 := fun H => @there_spec N n (by omega) H _ _ (looks_i (H := H) ok cap)
  have c50 := fun H => @node_spec N n (by omega) H _ _ (looks_i (H := H) ok cap) i
  rw [show (decide (i ≥ 0) && decide (i < (D.n : Int))) = D.isNode i from rfl] at c50
  refine call_look at52 rfl rfl (by decide) ha (sx_wp ?_)
  unfold Dv.seen at *
  cases g : D.isNode i with
  | false =>
    have e1 : D.who i e more = 2 := by simp [Dv.who, g]
    simp +contextual -implicitDefEqProofs (maxSteps := 10000000) only [sxb, plainD, stays, ↓selV_wt, ↓selV_wf, ↓impB_wt, ↓impB_wf, ↓selV_nor, ↓impB_nor, ↓selV_nt, ↓selV_nf, ↓impB_nt, ↓impB_nf, ↓selV_true, ↓selV_false, ↓selV_and, ↓impB_true, ↓impB_false, ↓impB_and, ↓prim_pick, ↓selV_nn, ↓impB_nn, doOp, get, ins, del, dels, Nat.reduceLT, Nat.reduceEqDiff, ↓reduceIte, reduceCtorEq, ne_eq, implies_true, prim, YLD, mkA, V.cells, Nat.reduceAdd, Nat.reduceSub, Nat.reduceMul, Nat.reduceLeDiff, loadA, cellsAt, nAg, packA, List.drop, List.take, List.head?, binA, unA, eqCells, eqCell, negB, fillA, storeA, Ob.with, indexedI, V.oneCell, intOf?, resA, resA1, packR, sealDepth, Int.reduceLT, Int.reduceLE, Int.reduceToNat, Int.reduceNeg, Int.reduceAdd, Int.reduceSub, Int.reduceMul, cond_true, cond_false, Int.reduceBNe, Int.reduceBEq, eq_self, deads, List.replicate, argsF, am52, isNil, c48, c50, pm48, pm50, g, e1, plain_int]
  | true =>
    obtain ⟨g1, g2⟩ := isNode_true g
    have := ok.n8
    have i8 : i < 8 := by omega
    have i7 : 1 + i.toNat + 1 ≤ 14 := by omega
    have q2 := fun X => @dv_e D X ok.e8 i.toNat (by omega)
    have e0 : D.E.getD i.toNat 0 = D.ep i := rfl
    cases g3 : (decide (e < 0) || (decide (e > D.ep i) || !more)) with
    | true =>
      have e1 : D.who i e more = 2 := by simp [Dv.who, g, g3]
      simp +contextual -implicitDefEqProofs (maxSteps := 10000000) only [sxb, plainD, stays, ↓selV_wt, ↓selV_wf, ↓impB_wt, ↓impB_wf, ↓selV_nor, ↓impB_nor, ↓selV_nt, ↓selV_nf, ↓impB_nt, ↓impB_nf, ↓selV_true, ↓selV_false, ↓selV_and, ↓impB_true, ↓impB_false, ↓impB_and, ↓prim_pick, ↓selV_nn, ↓impB_nn, doOp, get, ins, del, dels, Nat.reduceLT, Nat.reduceEqDiff, ↓reduceIte, reduceCtorEq, ne_eq, implies_true, prim, YLD, mkA, V.cells, Nat.reduceAdd, Nat.reduceSub, Nat.reduceMul, Nat.reduceLeDiff, loadA, cellsAt, nAg, packA, List.drop, List.take, List.head?, binA, unA, eqCells, eqCell, negB, fillA, storeA, Ob.with, indexedI, V.oneCell, intOf?, resA, resA1, packR, sealDepth, Int.reduceLT, Int.reduceLE, Int.reduceToNat, Int.reduceNeg, Int.reduceAdd, Int.reduceSub, Int.reduceMul, cond_true, cond_false, Int.reduceBNe, Int.reduceBEq, eq_self, deads, List.replicate, argsF, am52, isNil, c48, c50, pm48, pm50, g, q1, q2, g1, i8, i7, e0, e1, g3, plain_int]
    | false =>
      cases g4 : decide (e < D.ep i) with
      | true =>
        have e1 : D.who i e more = 8 := by simp only [Dv.who, g, g3, g4]; rfl
        simp +contextual -implicitDefEqProofs (maxSteps := 10000000) only [sxb, plainD, stays, ↓selV_wt, ↓selV_wf, ↓impB_wt, ↓impB_wf, ↓selV_nor, ↓impB_nor, ↓selV_nt, ↓selV_nf, ↓impB_nt, ↓impB_nf, ↓selV_true, ↓selV_false, ↓selV_and, ↓impB_true, ↓impB_false, ↓impB_and, ↓prim_pick, ↓selV_nn, ↓impB_nn, doOp, get, ins, del, dels, Nat.reduceLT, Nat.reduceEqDiff, ↓reduceIte, reduceCtorEq, ne_eq, implies_true, prim, YLD, mkA, V.cells, Nat.reduceAdd, Nat.reduceSub, Nat.reduceMul, Nat.reduceLeDiff, loadA, cellsAt, nAg, packA, List.drop, List.take, List.head?, binA, unA, eqCells, eqCell, negB, fillA, storeA, Ob.with, indexedI, V.oneCell, intOf?, resA, resA1, packR, sealDepth, Int.reduceLT, Int.reduceLE, Int.reduceToNat, Int.reduceNeg, Int.reduceAdd, Int.reduceSub, Int.reduceMul, cond_true, cond_false, Int.reduceBNe, Int.reduceBEq, eq_self, deads, List.replicate, argsF, am52, isNil, c48, c50, pm48, pm50, g, q1, q2, g1, i8, i7, e0, e1, g3, g4, plain_int]
      | false =>
        have e1 : D.who i e more = 0 := by simp only [Dv.who, g, g3, g4]; rfl
        simp +contextual -implicitDefEqProofs (maxSteps := 10000000) only [sxb, plainD, stays, ↓selV_wt, ↓selV_wf, ↓impB_wt, ↓impB_wf, ↓selV_nor, ↓impB_nor, ↓selV_nt, ↓selV_nf, ↓impB_nt, ↓impB_nf, ↓selV_true, ↓selV_false, ↓selV_and, ↓impB_true, ↓impB_false, ↓impB_and, ↓prim_pick, ↓selV_nn, ↓impB_nn, doOp, get, ins, del, dels, Nat.reduceLT, Nat.reduceEqDiff, ↓reduceIte, reduceCtorEq, ne_eq, implies_true, prim, YLD, mkA, V.cells, Nat.reduceAdd, Nat.reduceSub, Nat.reduceMul, Nat.reduceLeDiff, loadA, cellsAt, nAg, packA, List.drop, List.take, List.head?, binA, unA, eqCells, eqCell, negB, fillA, storeA, Ob.with, indexedI, V.oneCell, intOf?, resA, resA1, packR, sealDepth, Int.reduceLT, Int.reduceLE, Int.reduceToNat, Int.reduceNeg, Int.reduceAdd, Int.reduceSub, Int.reduceMul, cond_true, cond_false, Int.reduceBNe, Int.reduceBEq, eq_self, deads, List.replicate, argsF, am52, isNil, c48, c50, pm48, pm50, g, q1, q2, g1, i8, i7, e0, e1, g3, g4, plain_int]
def Dv.rwho (D : Dv) (i e : Int) : Int := bif (!D.isNode i || (decide (e < 0) || decide (e > D.ep i))) then 2 else 0
theorem rwho_spec {N n : Nat} (hn : 1 ≤ n) {H : Heap} {x : V} {D : Dv} (h : RLooks H x D) (i e : Int) : callA am N n 60 [x, .int .i64 i, .int .i64 e] H = some (.int .i64 (D.rwho i e), H) := by
  obtain ⟨n, rfl⟩ : ∃ m, n = m + 1 := ⟨n - 1, by omega⟩
  obtain ⟨cap, cap', ha⟩ := rlook_args3 h i e
  have ok := h.1
  have hL : (D.eps.map (V.int .i64)).length = D.n := by rw [List.length_map, eps_len ok]
  refine call_look at60 rfl rfl (by decide) ha (sx_wp ?_)
  unfold Dv.rseen Dv.rcs at *
  by_cases g1 : i < 0
  · have g : decide (i < 0) = true := decide_eq_true g1
    have g4 : D.isNode i = false := by simp [Dv.isNode]; omega
    have e1 : D.rwho i e = 2 := by simp [Dv.rwho, g4]
    simp +contextual -implicitDefEqProofs (maxSteps := 10000000) only [sxb, plainD, stays, ↓selV_wt, ↓selV_wf, ↓impB_wt, ↓impB_wf, ↓selV_nor, ↓impB_nor, ↓selV_nt, ↓selV_nf, ↓impB_nt, ↓impB_nf, ↓selV_true, ↓selV_false, ↓selV_and, ↓impB_true, ↓impB_false, ↓impB_and, ↓prim_pick, ↓selV_nn, ↓impB_nn, doOp, get, ins, del, dels, Nat.reduceLT, Nat.reduceEqDiff, ↓reduceIte, reduceCtorEq, ne_eq, implies_true, prim, YLD, mkA, V.cells, Nat.reduceAdd, Nat.reduceSub, Nat.reduceMul, Nat.reduceLeDiff, loadA, cellsAt, nAg, packA, List.drop, List.take, List.head?, binA, unA, eqCells, eqCell, negB, fillA, storeA, Ob.with, indexedI, V.oneCell, intOf?, resA, resA1, packR, sealDepth, Int.reduceLT, Int.reduceLE, Int.reduceToNat, Int.reduceNeg, Int.reduceAdd, Int.reduceSub, Int.reduceMul, cond_true, cond_false, Int.reduceBNe, Int.reduceBEq, eq_self, deads, List.replicate, argsF, am60, isNil, g, e1, lenA, hL, plain_int]
  · have g : decide (i < 0) = false := decide_eq_false g1
    by_cases g2 : i < (D.n : Int)
    · have g3 : decide (i ≥ (D.n : Int)) = false := decide_eq_false (by omega)
      have g4 : D.isNode i = true := by simp [Dv.isNode]; omega
      have q := fun cap => ep_at ok (by omega : 0 ≤ i) g2 cap
      cases g5 : (decide (e < 0) || decide (e > D.ep i)) with
      | true =>
        have e1 : D.rwho i e = 2 := by simp only [Dv.rwho, g4, g5]; rfl
        simp +contextual -implicitDefEqProofs (maxSteps := 10000000) only [sxb, plainD, stays, ↓selV_wt, ↓selV_wf, ↓impB_wt, ↓impB_wf, ↓selV_nor, ↓impB_nor, ↓selV_nt, ↓selV_nf, ↓impB_nt, ↓impB_nf, ↓selV_true, ↓selV_false, ↓selV_and, ↓impB_true, ↓impB_false, ↓impB_and, ↓prim_pick, ↓selV_nn, ↓impB_nn, doOp, get, ins, del, dels, Nat.reduceLT, Nat.reduceEqDiff, ↓reduceIte, reduceCtorEq, ne_eq, implies_true, prim, YLD, mkA, V.cells, Nat.reduceAdd, Nat.reduceSub, Nat.reduceMul, Nat.reduceLeDiff, loadA, cellsAt, nAg, packA, List.drop, List.take, List.head?, binA, unA, eqCells, eqCell, negB, fillA, storeA, Ob.with, indexedI, V.oneCell, intOf?, resA, resA1, packR, sealDepth, Int.reduceLT, Int.reduceLE, Int.reduceToNat, Int.reduceNeg, Int.reduceAdd, Int.reduceSub, Int.reduceMul, cond_true, cond_false, Int.reduceBNe, Int.reduceBEq, eq_self, deads, List.replicate, argsF, am60, isNil, g, g3, e1, lenA, hL, q, g5, plain_int]
      | false =>
        have e1 : D.rwho i e = 0 := by simp only [Dv.rwho, g4, g5]; rfl
        simp +contextual -implicitDefEqProofs (maxSteps := 10000000) only [sxb, plainD, stays, ↓selV_wt, ↓selV_wf, ↓impB_wt, ↓impB_wf, ↓selV_nor, ↓impB_nor, ↓selV_nt, ↓selV_nf, ↓impB_nt, ↓impB_nf, ↓selV_true, ↓selV_false, ↓selV_and, ↓impB_true, ↓impB_false, ↓impB_and, ↓prim_pick, ↓selV_nn, ↓impB_nn, doOp, get, ins, del, dels, Nat.reduceLT, Nat.reduceEqDiff, ↓reduceIte, reduceCtorEq, ne_eq, implies_true, prim, YLD, mkA, V.cells, Nat.reduceAdd, Nat.reduceSub, Nat.reduceMul, Nat.reduceLeDiff, loadA, cellsAt, nAg, packA, List.drop, List.take, List.head?, binA, unA, eqCells, eqCell, negB, fillA, storeA, Ob.with, indexedI, V.oneCell, intOf?, resA, resA1, packR, sealDepth, Int.reduceLT, Int.reduceLE, Int.reduceToNat, Int.reduceNeg, Int.reduceAdd, Int.reduceSub, Int.reduceMul, cond_true, cond_false, Int.reduceBNe, Int.reduceBEq, eq_self, deads, List.replicate, argsF, am60, isNil, g, g3, e1, lenA, hL, q, g5, plain_int]
    · have g3 : decide (i ≥ (D.n : Int)) = true := decide_eq_true (by omega)
      have g4 : D.isNode i = false := by simp [Dv.isNode]; omega
      have e1 : D.rwho i e = 2 := by simp [Dv.rwho, g4]
      simp +contextual -implicitDefEqProofs (maxSteps := 10000000) only [sxb, plainD, stays, ↓selV_wt, ↓selV_wf, ↓impB_wt, ↓impB_wf, ↓selV_nor, ↓impB_nor, ↓selV_nt, ↓selV_nf, ↓impB_nt, ↓impB_nf, ↓selV_true, ↓selV_false, ↓selV_and, ↓impB_true, ↓impB_false, ↓impB_and, ↓prim_pick, ↓selV_nn, ↓impB_nn, doOp, get, ins, del, dels, Nat.reduceLT, Nat.reduceEqDiff, ↓reduceIte, reduceCtorEq, ne_eq, implies_true, prim, YLD, mkA, V.cells, Nat.reduceAdd, Nat.reduceSub, Nat.reduceMul, Nat.reduceLeDiff, loadA, cellsAt, nAg, packA, List.drop, List.take, List.head?, binA, unA, eqCells, eqCell, negB, fillA, storeA, Ob.with, indexedI, V.oneCell, intOf?, resA, resA1, packR, sealDepth, Int.reduceLT, Int.reduceLE, Int.reduceToNat, Int.reduceNeg, Int.reduceAdd, Int.reduceSub, Int.reduceMul, cond_true, cond_false, Int.reduceBNe, Int.reduceBEq, eq_self, deads, List.replicate, argsF, am60, isNil, g, g3, e1, lenA, hL, plain_int]
end Go.Am.T


set_option linter.unusedVariables false
set_option linter.unusedSimpArgs false
set_option maxRecDepth 10000
namespace Go.Am.T
attribute [local congr] selV_congr impB_congr
theorem does_no {N n : Nat} {H : Heap} {d : Nat} {D : Dv} {X : V} (hd : H[d]? = some ⟨1, .var (D.cs X)⟩) (ok : D.Ok) (ho : D.out = true) (t : V) : callA am N (n + 1) 53 [.ptr d 1 0, t] H = some (.bool false, H.set d ⟨1, .var (D.lose.cs X)⟩) := by
  have e8 := ok.e8
  have q1 := @dv_len D X e8
  have qc := @dv_cut D X e8
  have ql := @dv_left D X e8
  have sl : setRange (D.cs X) 12 [.bool true] = D.lose.cs X := @dv_setLost D X e8 true
  have hlt := lt_of_get hd
  simp only [Dv.out, Bool.and_eq_true] at ho
  obtain ⟨h1, h2⟩ := ho
  refine call_keep_eq at53 rfl rfl (by decide) (sx_wp ?_)
  generalize D.lose.cs X = cs' at *
  generalize D.cs X = cs at *
  simp +contextual -implicitDefEqProofs (maxSteps := 10000000) only [sxb, plainD, stays, ↓selV_wt, ↓selV_wf, ↓impB_wt, ↓impB_wf, ↓selV_nor, ↓impB_nor, ↓selV_nt, ↓selV_nf, ↓impB_nt, ↓impB_nf, ↓selV_true, ↓selV_false, ↓selV_and, ↓impB_true, ↓impB_false, ↓impB_and, ↓prim_pick, ↓selV_nn, ↓impB_nn, doOp, get, ins, del, dels, Nat.reduceLT, Nat.reduceEqDiff, ↓reduceIte, reduceCtorEq, ne_eq, implies_true, prim, YLD, mkA, V.cells, Nat.reduceAdd, Nat.reduceSub, Nat.reduceMul, Nat.reduceLeDiff, loadA, cellsAt, nAg, packA, List.drop, List.take, List.head?, binA, unA, eqCells, eqCell, negB, fillA, storeA, Ob.with, indexedI, V.oneCell, intOf?, resA, resA1, packR, sealDepth, Int.reduceLT, Int.reduceLE, Int.reduceToNat, Int.reduceNeg, Int.reduceAdd, Int.reduceSub, Int.reduceMul, cond_true, cond_false, Int.reduceBNe, Int.reduceBEq, eq_self, deads, List.replicate, argsF, am53, isNil, List.append_nil, hd, hlt, q1, qc, ql, sl, h1, h2]
theorem does_yes {N n : Nat} {H : Heap} {d : Nat} {D : Dv} {X : V} (hd : H[d]? = some ⟨1, .var (D.cs X)⟩) (ok : D.Ok) (ho : D.out = false) {g : FuncId} {caps : List V} {u : V} {H2 : Heap} (hg : g ≠ 1000000007)
    (hc : callA am N n g caps (H.set d ⟨1, .var (D.tick.cs X)⟩) = some (u, H2)) : callA am N (n + 1) 53 [.ptr d 1 0, .func g [] caps] H = some (.bool true, H2) := by
  have e8 := ok.e8
  have hlt := lt_of_get hd
  have gs : ∀ y : Ob, (H.set d y)[d]? = some y := fun y => List.getElem?_set_self hlt
  have ss : ∀ y z : Ob, (H.set d y).set d z = H.set d z := fun y z => List.set_set ..
  refine call_keep_eq at53 rfl rfl (by decide) (sx_wp ?_)
  cases hcut : D.cut with
  | false =>
    have q1 := @dv_len D X e8
    have qc := @dv_cut D X e8
    have qd := @dv_done D X e8
    have sd := @dv_setDone D X e8 (IntKind.i64.wrap (D.done + 1))
    have et : ({ D with done := IntKind.i64.wrap (D.done + 1) } : Dv) = D.tick := by simp [Dv.tick, hcut]
    rw [et] at sd
    rw [hcut] at qc
    generalize D.cs X = cs at *
    generalize D.tick.cs X = cs' at *
    simp +contextual -implicitDefEqProofs (maxSteps := 10000000) only [sxb, plainD, stays, ↓selV_wt, ↓selV_wf, ↓impB_wt, ↓impB_wf, ↓selV_nor, ↓impB_nor, ↓selV_nt, ↓selV_nf, ↓impB_nt, ↓impB_nf, ↓selV_true, ↓selV_false, ↓selV_and, ↓impB_true, ↓impB_false, ↓impB_and, ↓prim_pick, ↓selV_nn, ↓impB_nn, doOp, get, ins, del, dels, Nat.reduceLT, Nat.reduceEqDiff, ↓reduceIte, reduceCtorEq, ne_eq, implies_true, prim, YLD, mkA, V.cells, Nat.reduceAdd, Nat.reduceSub, Nat.reduceMul, Nat.reduceLeDiff, loadA, cellsAt, nAg, packA, List.drop, List.take, List.head?, binA, unA, eqCells, eqCell, negB, fillA, storeA, Ob.with, indexedI, V.oneCell, intOf?, resA, resA1, packR, sealDepth, Int.reduceLT, Int.reduceLE, Int.reduceToNat, Int.reduceNeg, Int.reduceAdd, Int.reduceSub, Int.reduceMul, cond_true, cond_false, Int.reduceBNe, Int.reduceBEq, eq_self, deads, List.replicate, argsF, am53, isNil, List.append_nil, hd, hlt, q1, qc, qd, sd, cvP_func hg, hc]
  | true =>
    have h0 : (D.left == 0) = false := by simpa [Dv.out, hcut] using ho
    have hl0 := ok.l0 hcut
    have hl1 := ok.l1
    have w : IntKind.i64.wrap (D.left - 1) = D.left - 1 := wrap64 (by omega) (by omega)
    have q1 := @dv_len D X e8
    have qc := @dv_cut D X e8
    have ql := @dv_left D X e8
    have sl := @dv_setLeft D X e8 (D.left - 1)
    have p1 := @dv_len ({ D with left := D.left - 1 } : Dv) X e8
    have pd := @dv_done ({ D with left := D.left - 1 } : Dv) X e8
    have sd := @dv_setDone ({ D with left := D.left - 1 } : Dv) X e8 (IntKind.i64.wrap (D.done + 1))
    have et : ({ ({ D with left := D.left - 1 } : Dv) with done := IntKind.i64.wrap (D.done + 1) } : Dv) = D.tick := by simp [Dv.tick, hcut]
    rw [et] at sd
    rw [hcut] at qc
    simp only at pd
    generalize D.cs X = cs at *
    generalize D.tick.cs X = cs' at *
    generalize ({ D with left := D.left - 1 } : Dv).cs X = cs1 at *
    simp +contextual -implicitDefEqProofs (maxSteps := 10000000) only [sxb, plainD, stays, ↓selV_wt, ↓selV_wf, ↓impB_wt, ↓impB_wf, ↓selV_nor, ↓impB_nor, ↓selV_nt, ↓selV_nf, ↓impB_nt, ↓impB_nf, ↓selV_true, ↓selV_false, ↓selV_and, ↓impB_true, ↓impB_false, ↓impB_and, ↓prim_pick, ↓selV_nn, ↓impB_nn, doOp, get, ins, del, dels, Nat.reduceLT, Nat.reduceEqDiff, ↓reduceIte, reduceCtorEq, ne_eq, implies_true, prim, YLD, mkA, V.cells, Nat.reduceAdd, Nat.reduceSub, Nat.reduceMul, Nat.reduceLeDiff, loadA, cellsAt, nAg, packA, List.drop, List.take, List.head?, binA, unA, eqCells, eqCell, negB, fillA, storeA, Ob.with, indexedI, V.oneCell, intOf?, resA, resA1, packR, sealDepth, Int.reduceLT, Int.reduceLE, Int.reduceToNat, Int.reduceNeg, Int.reduceAdd, Int.reduceSub, Int.reduceMul, cond_true, cond_false, Int.reduceBNe, Int.reduceBEq, eq_self, deads, List.replicate, argsF, am53, isNil, List.append_nil, hd, hlt, q1, qc, ql, h0, w, sl, gs, ss, p1, pd, sd, cvP_func hg, hc]
theorem rl_out {D : Dv} (ok : D.Ok) : (D.rl == 0) = D.out := by
  unfold Dv.rl Dv.out
  cases D.cut <;> rfl
theorem rdoes_no {N n : Nat} {H : Heap} {r : Nat} {D : Dv} {X Y : V} (hr : H[r]? = some ⟨1, .var (D.rcs X Y)⟩) (ok : D.Ok) (ho : D.out = true) : callA am N (n + 1) 61 [.ptr r 1 0] H = some (.bool false, H.set r ⟨1, .var (D.lose.rcs X Y)⟩) := by
  have hlt := lt_of_get hr
  have h1 := rl_out ok
  rw [ho] at h1
  have e : D.lose.rcs X Y = [X, Y, .int .i64 D.rl, .bool true, .int .i64 D.done] := rfl
  rw [e]
  unfold Dv.rcs at *
  refine call_keep_eq at61 rfl rfl (by decide) (sx_wp ?_)
  simp +contextual -implicitDefEqProofs (maxSteps := 10000000) only [sxb, plainD, stays, ↓selV_wt, ↓selV_wf, ↓impB_wt, ↓impB_wf, ↓selV_nor, ↓impB_nor, ↓selV_nt, ↓selV_nf, ↓impB_nt, ↓impB_nf, ↓selV_true, ↓selV_false, ↓selV_and, ↓impB_true, ↓impB_false, ↓impB_and, ↓prim_pick, ↓selV_nn, ↓impB_nn, doOp, get, ins, del, dels, Nat.reduceLT, Nat.reduceEqDiff, ↓reduceIte, reduceCtorEq, ne_eq, implies_true, prim, YLD, mkA, V.cells, Nat.reduceAdd, Nat.reduceSub, Nat.reduceMul, Nat.reduceLeDiff, loadA, cellsAt, nAg, packA, List.drop, List.take, List.head?, binA, unA, eqCells, eqCell, negB, fillA, storeA, Ob.with, indexedI, V.oneCell, intOf?, resA, resA1, packR, sealDepth, Int.reduceLT, Int.reduceLE, Int.reduceToNat, Int.reduceNeg, Int.reduceAdd, Int.reduceSub, Int.reduceMul, cond_true, cond_false, Int.reduceBNe, Int.reduceBEq, eq_self, deads, List.replicate, argsF, am61, isNil, List.append_nil, hr, hlt, h1]
theorem rdoes_yes {N n : Nat} {H : Heap} {r : Nat} {D : Dv} {X Y : V} (hr : H[r]? = some ⟨1, .var (D.rcs X Y)⟩) (ok : D.Ok) (ho : D.out = false) : callA am N (n + 1) 61 [.ptr r 1 0] H = some (.bool true, H.set r ⟨1, .var (D.tick.rcs X Y)⟩) := by
  have hlt := lt_of_get hr
  have h1 := rl_out ok
  rw [ho] at h1
  have gs : ∀ y : Ob, (H.set r y)[r]? = some y := fun y => List.getElem?_set_self hlt
  have ss : ∀ y z : Ob, (H.set r y).set r z = H.set r z := fun y z => List.set_set ..
  refine call_keep_eq at61 rfl rfl (by decide) (sx_wp ?_)
  cases hcut : D.cut with
  | false =>
    have e : D.rl = -1 := by simp [Dv.rl, hcut]
    have e' : D.tick.rcs X Y = [X, Y, .int .i64 (-1), .bool D.lost, .int .i64 (IntKind.i64.wrap (D.done + 1))] := by simp [Dv.rcs, Dv.rl, Dv.tick, hcut]
    rw [e']
    unfold Dv.rcs at *
    rw [e] at hr
    have gm : decide ((-1 : Int) > 0) = false := by decide
    simp +contextual -implicitDefEqProofs (maxSteps := 10000000) only [sxb, plainD, stays, ↓selV_wt, ↓selV_wf, ↓impB_wt, ↓impB_wf, ↓selV_nor, ↓impB_nor, ↓selV_nt, ↓selV_nf, ↓impB_nt, ↓impB_nf, ↓selV_true, ↓selV_false, ↓selV_and, ↓impB_true, ↓impB_false, ↓impB_and, ↓prim_pick, ↓selV_nn, ↓impB_nn, doOp, get, ins, del, dels, Nat.reduceLT, Nat.reduceEqDiff, ↓reduceIte, reduceCtorEq, ne_eq, implies_true, prim, YLD, mkA, V.cells, Nat.reduceAdd, Nat.reduceSub, Nat.reduceMul, Nat.reduceLeDiff, loadA, cellsAt, nAg, packA, List.drop, List.take, List.head?, binA, unA, eqCells, eqCell, negB, fillA, storeA, Ob.with, indexedI, V.oneCell, intOf?, resA, resA1, packR, sealDepth, Int.reduceLT, Int.reduceLE, Int.reduceToNat, Int.reduceNeg, Int.reduceAdd, Int.reduceSub, Int.reduceMul, cond_true, cond_false, Int.reduceBNe, Int.reduceBEq, eq_self, deads, List.replicate, argsF, am61, isNil, List.append_nil, hr, hlt, gm]
  | true =>
    have e : D.rl = D.left := by simp [Dv.rl, hcut]
    have h0 : D.left ≠ 0 := by simpa [Dv.out, hcut] using ho
    have hl0 := ok.l0 hcut
    have hl1 := ok.l1
    have w : IntKind.i64.wrap (D.left - 1) = D.left - 1 := wrap64 (by omega) (by omega)
    have g : decide (D.left > 0) = true := decide_eq_true (by omega)
    have e' : D.tick.rcs X Y = [X, Y, .int .i64 (D.left - 1), .bool D.lost, .int .i64 (IntKind.i64.wrap (D.done + 1))] := by simp [Dv.rcs, Dv.rl, Dv.tick, hcut]
    rw [e']
    unfold Dv.rcs at *
    rw [e] at hr h1
    simp +contextual -implicitDefEqProofs (maxSteps := 10000000) only [sxb, plainD, stays, ↓selV_wt, ↓selV_wf, ↓impB_wt, ↓impB_wf, ↓selV_nor, ↓impB_nor, ↓selV_nt, ↓selV_nf, ↓impB_nt, ↓impB_nf, ↓selV_true, ↓selV_false, ↓selV_and, ↓impB_true, ↓impB_false, ↓impB_and, ↓prim_pick, ↓selV_nn, ↓impB_nn, doOp, get, ins, del, dels, Nat.reduceLT, Nat.reduceEqDiff, ↓reduceIte, reduceCtorEq, ne_eq, implies_true, prim, YLD, mkA, V.cells, Nat.reduceAdd, Nat.reduceSub, Nat.reduceMul, Nat.reduceLeDiff, loadA, cellsAt, nAg, packA, List.drop, List.take, List.head?, binA, unA, eqCells, eqCell, negB, fillA, storeA, Ob.with, indexedI, V.oneCell, intOf?, resA, resA1, packR, sealDepth, Int.reduceLT, Int.reduceLE, Int.reduceToNat, Int.reduceNeg, Int.reduceAdd, Int.reduceSub, Int.reduceMul, cond_true, cond_false, Int.reduceBNe, Int.reduceBEq, eq_self, deads, List.replicate, argsF, am61, isNil, List.append_nil, hr, hlt, h1, g, w, gs, ss]
end Go.Am.T


set_option linter.unusedVariables false
set_option linter.unusedSimpArgs false
set_option maxRecDepth 10000
namespace Go.Am.T
attribute [local congr] selV_congr impB_congr
theorem DAt.keep {H H' : Heap} {d o : Nat} {D : Dv} (h : DAt H d o D) (hk : ∀ p, p = d ∨ p = o → H'[p]? = H[p]?) : DAt H' d o D := by
  obtain ⟨ok, ⟨ver, cap, h1, h2⟩, h3⟩ := h
  exact ⟨ok, ⟨ver, cap, by rw [hk d (.inl rfl)]; exact h1, by rw [hk o (.inr rfl)]; exact h2⟩, h3⟩
theorem DAt.lt {H : Heap} {d o : Nat} {D : Dv} (h : DAt H d o D) : d < H.length ∧ o < H.length := by
  obtain ⟨ok, ⟨ver, cap, h1, h2⟩, h3⟩ := h
  exact ⟨lt_of_get h1, lt_of_get h2⟩
theorem DAt.app {H : Heap} {d o : Nat} {D : Dv} (h : DAt H d o D) (l : Heap) : DAt (H ++ l) d o D :=
  h.keep fun p hp => List.getElem?_append_left (by rcases hp with rfl | rfl <;> simp [h.lt])
theorem RAt.keep {H H' : Heap} {r s e : Nat} {D : Dv} (h : RAt H r s e D) (hk : ∀ p, p = r ∨ p = s ∨ p = e → H'[p]? = H[p]?) : RAt H' r s e D := by
  obtain ⟨ok, ⟨ver, cap, ver', cap', h1, h2, h3⟩, h4, h5, h6⟩ := h
  exact ⟨ok, ⟨ver, cap, ver', cap', by rw [hk r (.inl rfl)]; exact h1, by rw [hk s (.inr (.inl rfl))]; exact h2, by rw [hk e (.inr (.inr rfl))]; exact h3⟩, h4, h5, h6⟩
theorem RAt.lt {H : Heap} {r s e : Nat} {D : Dv} (h : RAt H r s e D) : r < H.length ∧ s < H.length ∧ e < H.length := by
  obtain ⟨ok, ⟨ver, cap, ver', cap', h1, h2, h3⟩, h4⟩ := h
  exact ⟨lt_of_get h1, lt_of_get h2, lt_of_get h3⟩
theorem DAt.put {H H' : Heap} {d o : Nat} {D D' : Dv} {ver : Nat} {cap : Option Nat} (h : DAt H d o D) (ok : D'.Ok) (hS : D'.S = D.S) (hd : H'[d]? = some ⟨1, .var (D'.cs (.view o ver 0 D.S.length 64 cap))⟩) (ho : H[o]? = some ⟨ver, .arr (D.S.flatten.map (V.int .u8))⟩) (hk : H'[o]? = H[o]?) : DAt H' d o D' :=
  ⟨ok, ⟨ver, cap, by rw [hS]; exact hd, by rw [hk, hS]; exact ho⟩, h.apart⟩
def Dv.whole (D : Dv) : Dv := { D with cut := false, lost := false }
theorem Dv.Ok.whole {D : Dv} (h : D.Ok) : D.whole.Ok := ⟨h.e8, h.n1, h.n8, h.s1, h.s4, h.sec, fun h => (by cases h), h.l1, h.z, h.eb⟩
def Dv.cutAt (D : Dv) (n : Int) : Dv := { D with cut := true, left := n, lost := false }
theorem Dv.Ok.cutAt {D : Dv} (h : D.Ok) {n : Int} (h0 : 0 ≤ n) (h1 : n ≤ 9223372036854775807) : (D.cutAt n).Ok := ⟨h.e8, h.n1, h.n8, h.s1, h.s4, h.sec, fun _ => h0, h1, h.z, h.eb⟩
theorem whole_spec {N n : Nat} (hn : 2 ≤ n) {H : Heap} {d o : Nat} {D : Dv} (h : DAt H d o D) :
    ∃ H', callA am N n 20 [.ptr d 1 0] H = some (.bool (!D.lost), H') ∧ H'.length = H.length ∧ (∀ p, p ≠ d → H'[p]? = H[p]?) ∧ DAt H' d o D.whole := by
  obtain ⟨n, rfl⟩ : ∃ m, n = m + 1 := ⟨n - 1, by omega⟩
  have c48 := @there_spec N n (by omega) H _ _ h.looks
  obtain ⟨ver, cap, hd, ho⟩ := h.ob
  have ok := h.ok
  have hlt := lt_of_get hd
  have gs : ∀ y : Ob, (H.set d y)[d]? = some y := fun y => List.getElem?_set_self hlt
  have ss : ∀ y z : Ob, (H.set d y).set d z = H.set d z := fun y z => List.set_set ..
  refine ⟨H.set d ⟨1, .var (D.whole.cs (.view o ver 0 D.S.length 64 cap))⟩, ?_, List.length_set, fun p hp => List.getElem?_set_ne (Ne.symm hp), h.put ok.whole rfl (gs _) ho (List.getElem?_set_ne h.apart)⟩
  generalize V.view o ver 0 D.S.length 64 cap = X at *
  have q1 := @dv_len D X ok.e8
  have ql := @dv_lost D X ok.e8
  have sc := @dv_setCut D X ok.e8 false
  have p1 := @dv_len ({ D with cut := false } : Dv) X ok.e8
  have sl : setRange (({ D with cut := false } : Dv).cs X) 12 [.bool false] = D.whole.cs X := @dv_setLost ({ D with cut := false } : Dv) X ok.e8 false
  refine call_keep_eq at20 rfl rfl (by decide) (sx_wp ?_)
  generalize D.whole.cs X = cs' at *
  generalize D.cs X = cs at *
  generalize ({ D with cut := false } : Dv).cs X = cs1 at *
  simp +contextual -implicitDefEqProofs (maxSteps := 10000000) only [sxb, plainD, stays, ↓selV_wt, ↓selV_wf, ↓impB_wt, ↓impB_wf, ↓selV_nor, ↓impB_nor, ↓selV_nt, ↓selV_nf, ↓impB_nt, ↓impB_nf, ↓selV_true, ↓selV_false, ↓selV_and, ↓impB_true, ↓impB_false, ↓impB_and, ↓prim_pick, ↓selV_nn, ↓impB_nn, doOp, get, ins, del, dels, Nat.reduceLT, Nat.reduceEqDiff, ↓reduceIte, reduceCtorEq, ne_eq, implies_true, prim, YLD, mkA, V.cells, Nat.reduceAdd, Nat.reduceSub, Nat.reduceMul, Nat.reduceLeDiff, loadA, cellsAt, nAg, packA, List.drop, List.take, List.head?, binA, unA, eqCells, eqCell, negB, fillA, storeA, Ob.with, indexedI, V.oneCell, intOf?, resA, resA1, packR, sealDepth, Int.reduceLT, Int.reduceLE, Int.reduceToNat, Int.reduceNeg, Int.reduceAdd, Int.reduceSub, Int.reduceMul, cond_true, cond_false, Int.reduceBNe, Int.reduceBEq, eq_self, deads, List.replicate, argsF, am20, isNil, List.append_nil, c48, hd, hlt, q1, ql, sc, gs, ss, p1, sl]
theorem cut_spec {N n : Nat} (hn : 2 ≤ n) {H : Heap} {d o : Nat} {D : Dv} (h : DAt H d o D) (k : Int) (hk : k ≤ 9223372036854775807) :
    ∃ H', callA am N n 25 [.ptr d 1 0, .int .i64 k] H = some (.int .i64 (bif decide (k < 0) then 2 else bif D.cut then 9 else 0), H') ∧ H'.length = H.length ∧ (∀ p, p ≠ d → H'[p]? = H[p]?) ∧ DAt H' d o (bif (decide (k < 0) || D.cut) then D else D.cutAt k) := by
  obtain ⟨n, rfl⟩ : ∃ m, n = m + 1 := ⟨n - 1, by omega⟩
  have c48 := @there_spec N n (by omega) H _ _ h.looks
  obtain ⟨ver, cap, hd, ho⟩ := h.ob
  have ok := h.ok
  have hlt := lt_of_get hd
  have gs : ∀ y : Ob, (H.set d y)[d]? = some y := fun y => List.getElem?_set_self hlt
  have ss : ∀ y z : Ob, (H.set d y).set d z = H.set d z := fun y z => List.set_set ..
  cases g : decide (k < 0) with
  | true =>
    refine ⟨H, ?_, rfl, fun _ _ => rfl, h⟩
    refine call_keep_eq at25 rfl rfl (by decide) (sx_wp ?_)
    simp +contextual -implicitDefEqProofs (maxSteps := 10000000) only [sxb, plainD, stays, ↓selV_wt, ↓selV_wf, ↓impB_wt, ↓impB_wf, ↓selV_nor, ↓impB_nor, ↓selV_nt, ↓selV_nf, ↓impB_nt, ↓impB_nf, ↓selV_true, ↓selV_false, ↓selV_and, ↓impB_true, ↓impB_false, ↓impB_and, ↓prim_pick, ↓selV_nn, ↓impB_nn, doOp, get, ins, del, dels, Nat.reduceLT, Nat.reduceEqDiff, ↓reduceIte, reduceCtorEq, ne_eq, implies_true, prim, YLD, mkA, V.cells, Nat.reduceAdd, Nat.reduceSub, Nat.reduceMul, Nat.reduceLeDiff, loadA, cellsAt, nAg, packA, List.drop, List.take, List.head?, binA, unA, eqCells, eqCell, negB, fillA, storeA, Ob.with, indexedI, V.oneCell, intOf?, resA, resA1, packR, sealDepth, Int.reduceLT, Int.reduceLE, Int.reduceToNat, Int.reduceNeg, Int.reduceAdd, Int.reduceSub, Int.reduceMul, cond_true, cond_false, Int.reduceBNe, Int.reduceBEq, eq_self, deads, List.replicate, argsF, am25, isNil, List.append_nil, c48, g]
  | false =>
    have k0 : 0 ≤ k := by have := of_decide_eq_false g; omega
    cases gc : D.cut with
    | true =>
      refine ⟨H, ?_, rfl, fun _ _ => rfl, h⟩
      generalize V.view o ver 0 D.S.length 64 cap = X at *
      have q1 := @dv_len D X ok.e8
      have qc := @dv_cut D X ok.e8
      rw [gc] at qc
      refine call_keep_eq at25 rfl rfl (by decide) (sx_wp ?_)
      generalize D.cs X = cs at *
      simp +contextual -implicitDefEqProofs (maxSteps := 10000000) only [sxb, plainD, stays, ↓selV_wt, ↓selV_wf, ↓impB_wt, ↓impB_wf, ↓selV_nor, ↓impB_nor, ↓selV_nt, ↓selV_nf, ↓impB_nt, ↓impB_nf, ↓selV_true, ↓selV_false, ↓selV_and, ↓impB_true, ↓impB_false, ↓impB_and, ↓prim_pick, ↓selV_nn, ↓impB_nn, doOp, get, ins, del, dels, Nat.reduceLT, Nat.reduceEqDiff, ↓reduceIte, reduceCtorEq, ne_eq, implies_true, prim, YLD, mkA, V.cells, Nat.reduceAdd, Nat.reduceSub, Nat.reduceMul, Nat.reduceLeDiff, loadA, cellsAt, nAg, packA, List.drop, List.take, List.head?, binA, unA, eqCells, eqCell, negB, fillA, storeA, Ob.with, indexedI, V.oneCell, intOf?, resA, resA1, packR, sealDepth, Int.reduceLT, Int.reduceLE, Int.reduceToNat, Int.reduceNeg, Int.reduceAdd, Int.reduceSub, Int.reduceMul, cond_true, cond_false, Int.reduceBNe, Int.reduceBEq, eq_self, deads, List.replicate, argsF, am25, isNil, List.append_nil, c48, g, hd, hlt, q1, qc]
    | false =>
      refine ⟨H.set d ⟨1, .var ((D.cutAt k).cs (.view o ver 0 D.S.length 64 cap))⟩, ?_, List.length_set, fun p hp => List.getElem?_set_ne (Ne.symm hp), h.put (ok.cutAt k0 hk) rfl (gs _) ho (List.getElem?_set_ne h.apart)⟩
      generalize V.view o ver 0 D.S.length 64 cap = X at *
      have q1 := @dv_len D X ok.e8
      have qc := @dv_cut D X ok.e8
      rw [gc] at qc
      have sc := @dv_setCut D X ok.e8 true
      have p1 := @dv_len ({ D with cut := true } : Dv) X ok.e8
      have sl := @dv_setLeft ({ D with cut := true } : Dv) X ok.e8 k
      have p2 := @dv_len ({ ({ D with cut := true } : Dv) with left := k } : Dv) X ok.e8
      have so : setRange (({ ({ D with cut := true } : Dv) with left := k } : Dv).cs X) 12 [.bool false] = (D.cutAt k).cs X := @dv_setLost ({ ({ D with cut := true } : Dv) with left := k } : Dv) X ok.e8 false
      refine call_keep_eq at25 rfl rfl (by decide) (sx_wp ?_)
      generalize (D.cutAt k).cs X = cs' at *
      generalize D.cs X = cs at *
      generalize ({ D with cut := true } : Dv).cs X = cs1 at *
      generalize ({ ({ D with cut := true } : Dv) with left := k } : Dv).cs X = cs2 at *
      simp +contextual -implicitDefEqProofs (maxSteps := 10000000) only [sxb, plainD, stays, ↓selV_wt, ↓selV_wf, ↓impB_wt, ↓impB_wf, ↓selV_nor, ↓impB_nor, ↓selV_nt, ↓selV_nf, ↓impB_nt, ↓impB_nf, ↓selV_true, ↓selV_false, ↓selV_and, ↓impB_true, ↓impB_false, ↓impB_and, ↓prim_pick, ↓selV_nn, ↓impB_nn, doOp, get, ins, del, dels, Nat.reduceLT, Nat.reduceEqDiff, ↓reduceIte, reduceCtorEq, ne_eq, implies_true, prim, YLD, mkA, V.cells, Nat.reduceAdd, Nat.reduceSub, Nat.reduceMul, Nat.reduceLeDiff, loadA, cellsAt, nAg, packA, List.drop, List.take, List.head?, binA, unA, eqCells, eqCell, negB, fillA, storeA, Ob.with, indexedI, V.oneCell, intOf?, resA, resA1, packR, sealDepth, Int.reduceLT, Int.reduceLE, Int.reduceToNat, Int.reduceNeg, Int.reduceAdd, Int.reduceSub, Int.reduceMul, cond_true, cond_false, Int.reduceBNe, Int.reduceBEq, eq_self, deads, List.replicate, argsF, am25, isNil, List.append_nil, c48, g, hd, hlt, q1, qc, sc, gs, ss, p1, sl, p2, so]
def Dv.setE (D : Dv) (i : Nat) (v : Int) : Dv := { D with E := D.E.set i v }
theorem Dv.Ok.setE {D : Dv} (h : D.Ok) {i : Nat} (hi : i < D.n) {v : Int} (hv : 0 ≤ v ∧ v ≤ 2147483647) : (D.setE i v).Ok := by
  refine ⟨by simp [Dv.setE, h.e8], h.n1, h.n8, h.s1, h.s4, h.sec, h.l0, h.l1, fun j hj => ?_, fun e he => ?_⟩
  rotate_left
  · rcases List.mem_or_eq_of_mem_set he with he | he
    · exact h.eb e he
    · rw [he]; exact hv
  have hne : i ≠ j := by have : D.n ≤ j := hj; omega
  have := h.z j hj
  simp only [Dv.setE, List.getD_eq_getElem?_getD] at this ⊢
  rw [List.getElem?_set_ne hne]; exact this
def Dv.doE (D : Dv) (i : Nat) (v : Int) : Dv := bif D.out then D.lose else D.tick.setE i v
theorem Dv.Ok.doE {D : Dv} (h : D.Ok) {i : Nat} (hi : i < D.n) {v : Int} (hv : 0 ≤ v ∧ v ≤ 2147483647) : (D.doE i v).Ok := by
  unfold Dv.doE
  cases g : D.out with
  | true => exact h.lose
  | false => exact (h.tick g).setE (D := D.tick) hi hv
theorem up1_spec {N n : Nat} (hn : 1 ≤ n) {K : Heap} {b0 b1 d : Nat} {D : Dv} {X : V} {i : Nat} (hi : i < 8) (e8 : D.E.length = 8) (h0 : K[b0]? = some ⟨1, .var [.ptr d 1 0]⟩) (h1 : K[b1]? = some ⟨1, .var [.int .i64 i]⟩) (hd : K[d]? = some ⟨1, .var (D.cs X)⟩) :
    callA am N n 56 [.ptr b0 1 0, .ptr b1 1 0] K = some (.tup [], K.set d ⟨1, .var ((D.setE i (IntKind.i64.wrap (D.E.getD i 0 + 1))).cs X)⟩) := by
  obtain ⟨n, rfl⟩ : ∃ m, n = m + 1 := ⟨n - 1, by omega⟩
  have hlt := lt_of_get hd
  have q1 := @dv_len D X e8
  have q2 := @dv_e D X e8 i hi
  have se : ∀ v, setRange (D.cs X) (1 + i) [.int .i64 v] = (D.setE i v).cs X := fun v => @dv_setE D X e8 i hi v
  have i8 : (i : Int) < 8 := by omega
  have i7 : 1 + i + 1 ≤ 14 := by omega
  refine call_keep_eq at56 rfl rfl (by decide) (sx_wp ?_)
  generalize D.cs X = cs at *
  simp +contextual -implicitDefEqProofs (maxSteps := 10000000) only [sxb, plainD, stays, ↓selV_wt, ↓selV_wf, ↓impB_wt, ↓impB_wf, ↓selV_nor, ↓impB_nor, ↓selV_nt, ↓selV_nf, ↓impB_nt, ↓impB_nf, ↓selV_true, ↓selV_false, ↓selV_and, ↓impB_true, ↓impB_false, ↓impB_and, ↓prim_pick, ↓selV_nn, ↓impB_nn, doOp, get, ins, del, dels, Nat.reduceLT, Nat.reduceEqDiff, ↓reduceIte, reduceCtorEq, ne_eq, implies_true, prim, YLD, mkA, V.cells, Nat.reduceAdd, Nat.reduceSub, Nat.reduceMul, Nat.reduceLeDiff, loadA, cellsAt, nAg, packA, List.drop, List.take, List.head?, binA, unA, eqCells, eqCell, negB, fillA, storeA, Ob.with, indexedI, V.oneCell, intOf?, resA, resA1, packR, sealDepth, Int.reduceLT, Int.reduceLE, Int.reduceToNat, Int.reduceNeg, Int.reduceAdd, Int.reduceSub, Int.reduceMul, cond_true, cond_false, Int.reduceBNe, Int.reduceBEq, eq_self, deads, List.replicate, argsF, am56, isNil, List.append_nil, h0, h1, hd, hlt, q1, q2, se, i8, i7]
theorem ep_bound {D : Dv} (h : D.Ok) (i : Int) : 0 ≤ D.ep i ∧ D.ep i ≤ 2147483647 := by
  unfold Dv.ep
  rw [List.getD_eq_getElem?_getD]
  cases g : D.E[i.toNat]? with
  | none => exact ⟨Int.le_refl 0, by decide⟩
  | some v => exact h.eb v (List.mem_of_getElem? g)
def Dv.upR (D : Dv) (i : Int) : List V := bif !D.isNode i then [.int .i64 0, .int .i64 2] else bif D.ep i == 2147483647 then [.int .i64 0, .int .i64 5] else [.int .i64 (D.ep i + 1), .int .i64 0]
def Dv.up (D : Dv) (i : Int) : Dv := bif D.isNode i && !(D.ep i == 2147483647) then D.doE i.toNat (D.ep i + 1) else D
theorem up_spec {N n : Nat} (hn : 4 ≤ n) {H : Heap} {d o : Nat} {D : Dv} (h : DAt H d o D) (i : Int) :
    ∃ H', callA am N n 27 [.ptr d 1 0, .int .i64 i] H = some (.tup (D.upR i), H') ∧ H.length ≤ H'.length ∧ (∀ p, p < H.length → p ≠ d → H'[p]? = H[p]?) ∧ DAt H' d o (D.up i) := by
  obtain ⟨n, rfl⟩ : ∃ m, n = m + 1 := ⟨n - 1, by omega⟩
  obtain ⟨K, hK⟩ : ∃ K : Heap, K = H ++ [⟨1, .var [.ptr d 1 0]⟩, ⟨1, .var [.int .i64 i]⟩] := ⟨_, rfl⟩
  have hKl : K.length = H.length + 2 := by rw [hK]; simp
  have hKo : ∀ p, p < H.length → K[p]? = H[p]? := fun p hp => by rw [hK, List.getElem?_append_left hp]
  have D1 : DAt K d o D := by rw [hK]; exact h.app _
  have c19 := @epoch_spec N n (by omega) K _ _ D1.looks i
  have ok := h.ok
  have hlt := h.lt.1
  cases g : D.isNode i with
  | false =>
    refine ⟨K, ?_, by omega, fun p hp _ => hKo p hp, by simpa [Dv.up, g] using D1⟩
    have e : D.upR i = [.int .i64 0, .int .i64 2] := by simp [Dv.upR, g]
    rw [g] at c19
    rw [e]
    subst hK
    refine call_keep_eq at27 rfl rfl (by decide) (sx_wp ?_)
    simp +contextual -implicitDefEqProofs (maxSteps := 10000000) only [sxb, plainD, stays, ↓selV_wt, ↓selV_wf, ↓impB_wt, ↓impB_wf, ↓selV_nor, ↓impB_nor, ↓selV_nt, ↓selV_nf, ↓impB_nt, ↓impB_nf, ↓selV_true, ↓selV_false, ↓selV_and, ↓impB_true, ↓impB_false, ↓impB_and, ↓prim_pick, ↓selV_nn, ↓impB_nn, doOp, get, ins, del, dels, Nat.reduceLT, Nat.reduceEqDiff, ↓reduceIte, reduceCtorEq, ne_eq, implies_true, prim, YLD, mkA, V.cells, Nat.reduceAdd, Nat.reduceSub, Nat.reduceMul, Nat.reduceLeDiff, loadA, cellsAt, nAg, packA, List.drop, List.take, List.head?, binA, unA, eqCells, eqCell, negB, fillA, storeA, Ob.with, indexedI, V.oneCell, intOf?, resA, resA1, packR, sealDepth, Int.reduceLT, Int.reduceLE, Int.reduceToNat, Int.reduceNeg, Int.reduceAdd, Int.reduceSub, Int.reduceMul, cond_true, cond_false, Int.reduceBNe, Int.reduceBEq, eq_self, deads, List.replicate, argsF, am27, isNil, app_get0, app_get, app_set0, app_set, c19]
  | true =>
    rw [g] at c19
    obtain ⟨g1, g2⟩ := isNode_true g
    cases gm : D.ep i == 2147483647 with
    | true =>
      refine ⟨K, ?_, by omega, fun p hp _ => hKo p hp, by simpa [Dv.up, g, gm] using D1⟩
      have e : D.upR i = [.int .i64 0, .int .i64 5] := by simp [Dv.upR, g, gm]
      rw [e]
      subst hK
      refine call_keep_eq at27 rfl rfl (by decide) (sx_wp ?_)
      simp +contextual -implicitDefEqProofs (maxSteps := 10000000) only [sxb, plainD, stays, ↓selV_wt, ↓selV_wf, ↓impB_wt, ↓impB_wf, ↓selV_nor, ↓impB_nor, ↓selV_nt, ↓selV_nf, ↓impB_nt, ↓impB_nf, ↓selV_true, ↓selV_false, ↓selV_and, ↓impB_true, ↓impB_false, ↓impB_and, ↓prim_pick, ↓selV_nn, ↓impB_nn, doOp, get, ins, del, dels, Nat.reduceLT, Nat.reduceEqDiff, ↓reduceIte, reduceCtorEq, ne_eq, implies_true, prim, YLD, mkA, V.cells, Nat.reduceAdd, Nat.reduceSub, Nat.reduceMul, Nat.reduceLeDiff, loadA, cellsAt, nAg, packA, List.drop, List.take, List.head?, binA, unA, eqCells, eqCell, negB, fillA, storeA, Ob.with, indexedI, V.oneCell, intOf?, resA, resA1, packR, sealDepth, Int.reduceLT, Int.reduceLE, Int.reduceToNat, Int.reduceNeg, Int.reduceAdd, Int.reduceSub, Int.reduceMul, cond_true, cond_false, Int.reduceBNe, Int.reduceBEq, eq_self, deads, List.replicate, argsF, am27, isNil, app_get0, app_get, app_set0, app_set, c19, gm]
    | false =>
      have hb := ep_bound ok i
      have hne : D.ep i ≠ 2147483647 := by simpa using gm
      have w : IntKind.i64.wrap (D.ep i + 1) = D.ep i + 1 := wrap64 (by omega) (by omega)
      have ei : ((i.toNat : Nat) : Int) = i := by omega
      obtain ⟨ver, cap, hd, ho⟩ := D1.ob
      have k0 : K[H.length]? = some ⟨1, .var [.ptr d 1 0]⟩ := by rw [hK, app_get0]; rfl
      have k1 : K[H.length + 1]? = some ⟨1, .var [.int .i64 i]⟩ := by rw [hK, app_get]; rfl
      have hdK := lt_of_get hd
      have e : D.upR i = [.int .i64 (D.ep i + 1), .int .i64 0] := by simp [Dv.upR, g, gm]
      have eu : D.up i = D.doE i.toNat (D.ep i + 1) := by simp [Dv.up, g, gm]
      have okE : (D.doE i.toNat (D.ep i + 1)).Ok := ok.doE (by omega) (by omega)
      have c53 : ∃ b, callA am N n 53 [.ptr d 1 0, .func 56 [] [.ptr H.length 1 0, .ptr (H.length + 1) 1 0]] K = some (.bool b, K.set d ⟨1, .var ((D.doE i.toNat (D.ep i + 1)).cs (.view o ver 0 D.S.length 64 cap))⟩) := by
        obtain ⟨n, rfl⟩ : ∃ m, n = m + 1 := ⟨n - 1, by omega⟩
        cases go : D.out with
        | true =>
          refine ⟨false, ?_⟩
          rw [does_no hd ok go]
          simp only [Dv.doE, go, cond_true]
        | false =>
          refine ⟨true, ?_⟩
          have q := @up1_spec N n (by omega) (K.set d ⟨1, .var (D.tick.cs (.view o ver 0 D.S.length 64 cap))⟩) H.length (H.length + 1) d D.tick (.view o ver 0 D.S.length 64 cap) i.toNat (by have := ok.n8; omega) ok.e8
            (by rw [List.getElem?_set_ne (by omega)]; exact k0) (by rw [List.getElem?_set_ne (by omega), ei]; exact k1) (List.getElem?_set_self hdK)
          rw [does_yes hd ok go (by decide) q, List.set_set]
          have e1 : D.tick.E.getD i.toNat 0 = D.ep i := rfl
          simp only [Dv.doE, go, cond_false, e1, w]
      obtain ⟨b, c53⟩ := c53
      refine ⟨K.set d ⟨1, .var ((D.doE i.toNat (D.ep i + 1)).cs (.view o ver 0 D.S.length 64 cap))⟩, ?_, by rw [List.length_set]; omega, fun p hp hpd => by rw [List.getElem?_set_ne (Ne.symm hpd), hKo p hp], ?_⟩
      · rw [e]
        generalize (D.doE i.toNat (D.ep i + 1)).cs (.view o ver 0 D.S.length 64 cap) = cs' at *
        have c53' := c53
        subst hK
        refine call_keep_eq at27 rfl rfl (by decide) (sx_wp ?_)
        simp +contextual -implicitDefEqProofs (maxSteps := 10000000) only [sxb, plainD, stays, ↓selV_wt, ↓selV_wf, ↓impB_wt, ↓impB_wf, ↓selV_nor, ↓impB_nor, ↓selV_nt, ↓selV_nf, ↓impB_nt, ↓impB_nf, ↓selV_true, ↓selV_false, ↓selV_and, ↓impB_true, ↓impB_false, ↓impB_and, ↓prim_pick, ↓selV_nn, ↓impB_nn, doOp, get, ins, del, dels, Nat.reduceLT, Nat.reduceEqDiff, ↓reduceIte, reduceCtorEq, ne_eq, implies_true, prim, YLD, mkA, V.cells, Nat.reduceAdd, Nat.reduceSub, Nat.reduceMul, Nat.reduceLeDiff, loadA, cellsAt, nAg, packA, List.drop, List.take, List.head?, binA, unA, eqCells, eqCell, negB, fillA, storeA, Ob.with, indexedI, V.oneCell, intOf?, resA, resA1, packR, sealDepth, Int.reduceLT, Int.reduceLE, Int.reduceToNat, Int.reduceNeg, Int.reduceAdd, Int.reduceSub, Int.reduceMul, cond_true, cond_false, Int.reduceBNe, Int.reduceBEq, eq_self, deads, List.replicate, argsF, am27, isNil, app_get0, app_get, app_set0, app_set, c19, gm, c53', w]
      · rw [eu]
        have eS : (D.doE i.toNat (D.ep i + 1)).S = D.S := by unfold Dv.doE; cases D.out <;> rfl
        exact D1.put okE eS (List.getElem?_set_self hdK) ho (List.getElem?_set_ne D1.apart)
end Go.Am.T


set_option linter.unusedVariables false
set_option linter.unusedSimpArgs false
set_option maxRecDepth 10000
namespace Go.Am.T
attribute [local congr] selV_congr impB_congr
theorem fence1_spec {N n : Nat} (hn : 1 ≤ n) {K : Heap} {b0 b1 b2 d : Nat} {D : Dv} {X : V} {i : Nat} {a : Int} (hi : i < 8) (e8 : D.E.length = 8) (h0 : K[b0]? = some ⟨1, .var [.int .i64 a]⟩) (h1 : K[b1]? = some ⟨1, .var [.ptr d 1 0]⟩) (h2 : K[b2]? = some ⟨1, .var [.int .i64 i]⟩) (hd : K[d]? = some ⟨1, .var (D.cs X)⟩) :
    callA am N n 55 [.ptr b0 1 0, .ptr b1 1 0, .ptr b2 1 0] K = some (.tup [], K.set d ⟨1, .var ((D.setE i (IntKind.i64.wrap (a + 1))).cs X)⟩) := by
  obtain ⟨n, rfl⟩ : ∃ m, n = m + 1 := ⟨n - 1, by omega⟩
  have hlt := lt_of_get hd
  have q1 := @dv_len D X e8
  have se : ∀ v, setRange (D.cs X) (1 + i) [.int .i64 v] = (D.setE i v).cs X := fun v => @dv_setE D X e8 i hi v
  have i8 : (i : Int) < 8 := by omega
  have i7 : 1 + i + 1 ≤ 14 := by omega
  refine call_keep_eq at55 rfl rfl (by decide) (sx_wp ?_)
  generalize D.cs X = cs at *
  simp +contextual -implicitDefEqProofs (maxSteps := 10000000) only [sxb, plainD, stays, ↓selV_wt, ↓selV_wf, ↓impB_wt, ↓impB_wf, ↓selV_nor, ↓impB_nor, ↓selV_nt, ↓selV_nf, ↓impB_nt, ↓impB_nf, ↓selV_true, ↓selV_false, ↓selV_and, ↓impB_true, ↓impB_false, ↓impB_and, ↓prim_pick, ↓selV_nn, ↓impB_nn, doOp, get, ins, del, dels, Nat.reduceLT, Nat.reduceEqDiff, ↓reduceIte, reduceCtorEq, ne_eq, implies_true, prim, YLD, mkA, V.cells, Nat.reduceAdd, Nat.reduceSub, Nat.reduceMul, Nat.reduceLeDiff, loadA, cellsAt, nAg, packA, List.drop, List.take, List.head?, binA, unA, eqCells, eqCell, negB, fillA, storeA, Ob.with, indexedI, V.oneCell, intOf?, resA, resA1, packR, sealDepth, Int.reduceLT, Int.reduceLE, Int.reduceToNat, Int.reduceNeg, Int.reduceAdd, Int.reduceSub, Int.reduceMul, cond_true, cond_false, Int.reduceBNe, Int.reduceBEq, eq_self, deads, List.replicate, argsF, am55, isNil, List.append_nil, h0, h1, h2, hd, hlt, q1, se, i8, i7]
theorem doE_spec {N n : Nat} (hn : 1 ≤ n) {K : Heap} {d : Nat} {D : Dv} {X : V} {g : FuncId} {caps : List V} {i : Nat} {v : Int} (ok : D.Ok) (hd : K[d]? = some ⟨1, .var (D.cs X)⟩) (hg : g ≠ 1000000007)
    (hc : D.out = false → ∃ u, callA am N (n - 1) g caps (K.set d ⟨1, .var (D.tick.cs X)⟩) = some (u, (K.set d ⟨1, .var (D.tick.cs X)⟩).set d ⟨1, .var ((D.tick.setE i v).cs X)⟩)) :
    ∃ b, callA am N n 53 [.ptr d 1 0, .func g [] caps] K = some (.bool b, K.set d ⟨1, .var ((D.doE i v).cs X)⟩) := by
  obtain ⟨n, rfl⟩ : ∃ m, n = m + 1 := ⟨n - 1, by omega⟩
  cases go : D.out with
  | true =>
    refine ⟨false, ?_⟩
    rw [does_no hd ok go]
    simp only [Dv.doE, go, cond_true]
  | false =>
    refine ⟨true, ?_⟩
    obtain ⟨u, q⟩ := hc go
    rw [Nat.add_sub_cancel] at q
    rw [does_yes hd ok go hg q, List.set_set]
    simp only [Dv.doE, go, cond_false]
def Dv.may (D : Dv) (w a : Int) : Bool := D.isNode w && (decide (a ≥ 0) && decide (a < 2147483647))
def Dv.fence (D : Dv) (i e w a : Int) : Dv := bif (D.who i e (D.may w a) == 0) && decide (D.ep w ≤ a) then D.doE w.toNat (a + 1) else D
theorem who_more {D : Dv} {i e : Int} {b : Bool} (h : D.who i e b = 0) : b = true := by
  cases b with
  | true => rfl
  | false => simp [Dv.who] at h
theorem who_cases {D : Dv} (i e : Int) (b : Bool) : D.who i e b = 0 ∨ D.who i e b = 2 ∨ D.who i e b = 8 := by
  unfold Dv.who
  cases (!D.isNode i || (decide (e < 0) || (decide (e > D.ep i) || !b))) with
  | true => exact .inr (.inl rfl)
  | false => cases decide (e < D.ep i) with
    | true => exact .inr (.inr rfl)
    | false => exact .inl rfl
theorem fence_spec {N n : Nat} (hn : 4 ≤ n) {H : Heap} {d o : Nat} {D : Dv} (h : DAt H d o D) (i e w a : Int) :
    ∃ H', callA am N n 24 [.ptr d 1 0, .int .i64 i, .int .i64 e, .int .i64 w, .int .i64 a] H = some (.int .i64 (D.who i e (D.may w a)), H') ∧ H.length ≤ H'.length ∧ (∀ p, p < H.length → p ≠ d → H'[p]? = H[p]?) ∧ DAt H' d o (D.fence i e w a) := by
  obtain ⟨n, rfl⟩ : ∃ m, n = m + 1 := ⟨n - 1, by omega⟩
  obtain ⟨K, hK⟩ : ∃ K : Heap, K = H ++ [⟨1, .var [.ptr d 1 0]⟩, ⟨1, .var [.int .i64 w]⟩, ⟨1, .var [.int .i64 a]⟩] := ⟨_, rfl⟩
  have hKl : K.length = H.length + 3 := by rw [hK]; simp
  have hKo : ∀ p, p < H.length → K[p]? = H[p]? := fun p hp => by rw [hK, List.getElem?_append_left hp]
  have D1 : DAt K d o D := by rw [hK]; exact h.app _
  have c48 := @there_spec N n (by omega) K _ _ D1.looks
  have c50 := @node_spec N n (by omega) K _ _ D1.looks w
  rw [show (decide (w ≥ 0) && decide (w < (D.n : Int))) = D.isNode w from rfl] at c50
  have c52 := @who_spec N n (by omega) K _ _ D1.looks i e (D.may w a)
  have em : (D.isNode w && (decide (a ≥ 0) && decide (a < 2147483647))) = D.may w a := rfl
  have ok := h.ok
  have hlt := h.lt.1
  rcases Int.lt_or_le 0 (D.who i e (D.may w a)) with hpos | hneg
  · have gz : (D.who i e (D.may w a) != 0) = true := by simp; omega
    have gz' : (D.who i e (D.may w a) == 0) = false := by simp; omega
    refine ⟨K, ?_, by omega, fun p hp _ => hKo p hp, by simpa [Dv.fence, gz'] using D1⟩
    generalize D.who i e (D.may w a) = R at *
    subst hK
    refine call_keep_eq at24 rfl rfl (by decide) (sx_wp ?_)
    simp +contextual -implicitDefEqProofs (maxSteps := 10000000) only [sxb, plainD, stays, ↓selV_wt, ↓selV_wf, ↓impB_wt, ↓impB_wf, ↓selV_nor, ↓impB_nor, ↓selV_nt, ↓selV_nf, ↓impB_nt, ↓impB_nf, ↓selV_true, ↓selV_false, ↓selV_and, ↓impB_true, ↓impB_false, ↓impB_and, ↓prim_pick, ↓selV_nn, ↓impB_nn, doOp, get, ins, del, dels, Nat.reduceLT, Nat.reduceEqDiff, ↓reduceIte, reduceCtorEq, ne_eq, implies_true, prim, YLD, mkA, V.cells, Nat.reduceAdd, Nat.reduceSub, Nat.reduceMul, Nat.reduceLeDiff, loadA, cellsAt, nAg, packA, List.drop, List.take, List.head?, binA, unA, eqCells, eqCell, negB, fillA, storeA, Ob.with, indexedI, V.oneCell, intOf?, resA, resA1, packR, sealDepth, Int.reduceLT, Int.reduceLE, Int.reduceToNat, Int.reduceNeg, Int.reduceAdd, Int.reduceSub, Int.reduceMul, cond_true, cond_false, Int.reduceBNe, Int.reduceBEq, eq_self, deads, List.replicate, argsF, am24, isNil, app_get0, app_get, app_set0, app_set, c48, c50, c52, pm48, pm50, em, gz]
  · have hR : D.who i e (D.may w a) = 0 := by rcases who_cases (D := D) i e (D.may w a) with h | h | h <;> omega
    have hmay := who_more hR
    rw [hR, hmay] at c52
    rw [hmay] at em
    simp only [Dv.may, Bool.and_eq_true, decide_eq_true_eq] at hmay
    obtain ⟨gw, a0, a1⟩ := hmay
    have ga0 : decide (a ≥ 0) = true := decide_eq_true a0
    have ga1 : decide (a < 2147483647) = true := decide_eq_true a1
    obtain ⟨g1, g2⟩ := isNode_true gw
    have hn8 := ok.n8
    have ei : ((w.toNat : Nat) : Int) = w := by omega
    have i8 : w < 8 := by omega
    have i7 : 1 + w.toNat + 1 ≤ 14 := by omega
    obtain ⟨ver, cap, hd, ho⟩ := D1.ob
    have hdK := lt_of_get hd
    have k0 : K[H.length]? = some ⟨1, .var [.ptr d 1 0]⟩ := by rw [hK, app_get0]; rfl
    have k1 : K[H.length + 1]? = some ⟨1, .var [.int .i64 w]⟩ := by rw [hK, app_get]; rfl
    have k2 : K[H.length + 2]? = some ⟨1, .var [.int .i64 a]⟩ := by rw [hK, app_get]; rfl
    have q1 := fun X => @dv_len D X ok.e8
    have q2 := fun X => @dv_e D X ok.e8 w.toNat (by omega)
    have e0 : D.E.getD w.toNat 0 = D.ep w := rfl
    rw [hR]
    cases gl : decide (D.ep w ≤ a) with
    | false =>
      refine ⟨K, ?_, by omega, fun p hp _ => hKo p hp, by simpa [Dv.fence, gl] using D1⟩
      generalize hX : V.view o ver 0 D.S.length 64 cap = X at *
      have q1 := q1 X
      have q2 := q2 X
      generalize D.cs X = cs at *
      subst hK
      refine call_keep_eq at24 rfl rfl (by decide) (sx_wp ?_)
      simp +contextual -implicitDefEqProofs (maxSteps := 10000000) only [sxb, plainD, stays, ↓selV_wt, ↓selV_wf, ↓impB_wt, ↓impB_wf, ↓selV_nor, ↓impB_nor, ↓selV_nt, ↓selV_nf, ↓impB_nt, ↓impB_nf, ↓selV_true, ↓selV_false, ↓selV_and, ↓impB_true, ↓impB_false, ↓impB_and, ↓prim_pick, ↓selV_nn, ↓impB_nn, doOp, get, ins, del, dels, Nat.reduceLT, Nat.reduceEqDiff, ↓reduceIte, reduceCtorEq, ne_eq, implies_true, prim, YLD, mkA, V.cells, Nat.reduceAdd, Nat.reduceSub, Nat.reduceMul, Nat.reduceLeDiff, loadA, cellsAt, nAg, packA, List.drop, List.take, List.head?, binA, unA, eqCells, eqCell, negB, fillA, storeA, Ob.with, indexedI, V.oneCell, intOf?, resA, resA1, packR, sealDepth, Int.reduceLT, Int.reduceLE, Int.reduceToNat, Int.reduceNeg, Int.reduceAdd, Int.reduceSub, Int.reduceMul, cond_true, cond_false, Int.reduceBNe, Int.reduceBEq, eq_self, deads, List.replicate, argsF, am24, isNil, app_get0, app_get, app_set0, app_set, c48, c50, c52, pm48, pm50, ga0, ga1, gw, hd, q1, q2, e0, g1, i8, i7, gl]
    | true =>
      have eu : D.fence i e w a = D.doE w.toNat (a + 1) := by unfold Dv.fence; rw [hR, gl]; rfl
      have okE : (D.doE w.toNat (a + 1)).Ok := ok.doE (by omega) (by omega)
      have w1 : IntKind.i64.wrap (a + 1) = a + 1 := wrap64 (by omega) (by omega)
      obtain ⟨b, c53⟩ := @doE_spec N n (by omega) K d D (.view o ver 0 D.S.length 64 cap) 55 [.ptr (H.length + 2) 1 0, .ptr H.length 1 0, .ptr (H.length + 1) 1 0] w.toNat (a + 1) ok hd (by decide) (fun go => by
        refine ⟨.tup [], ?_⟩
        have q := @fence1_spec N (n - 1) (by omega) (K.set d ⟨1, .var (D.tick.cs (.view o ver 0 D.S.length 64 cap))⟩) (H.length + 2) H.length (H.length + 1) d D.tick (.view o ver 0 D.S.length 64 cap) w.toNat a (by omega) ok.e8
          (by rw [List.getElem?_set_ne (by omega)]; exact k2) (by rw [List.getElem?_set_ne (by omega)]; exact k0) (by rw [List.getElem?_set_ne (by omega), ei]; exact k1) (List.getElem?_set_self hdK)
        rw [w1] at q
        exact q)
      refine ⟨K.set d ⟨1, .var ((D.doE w.toNat (a + 1)).cs (.view o ver 0 D.S.length 64 cap))⟩, ?_, by rw [List.length_set]; omega, fun p hp hpd => by rw [List.getElem?_set_ne (Ne.symm hpd), hKo p hp], ?_⟩
      · generalize hX : V.view o ver 0 D.S.length 64 cap = X at *
        generalize (D.doE w.toNat (a + 1)).cs X = cs' at *
        have q1 := q1 X
        have q2 := q2 X
        generalize D.cs X = cs at *
        subst hK
        refine call_keep_eq at24 rfl rfl (by decide) (sx_wp ?_)
        simp +contextual -implicitDefEqProofs (maxSteps := 10000000) only [sxb, plainD, stays, ↓selV_wt, ↓selV_wf, ↓impB_wt, ↓impB_wf, ↓selV_nor, ↓impB_nor, ↓selV_nt, ↓selV_nf, ↓impB_nt, ↓impB_nf, ↓selV_true, ↓selV_false, ↓selV_and, ↓impB_true, ↓impB_false, ↓impB_and, ↓prim_pick, ↓selV_nn, ↓impB_nn, doOp, get, ins, del, dels, Nat.reduceLT, Nat.reduceEqDiff, ↓reduceIte, reduceCtorEq, ne_eq, implies_true, prim, YLD, mkA, V.cells, Nat.reduceAdd, Nat.reduceSub, Nat.reduceMul, Nat.reduceLeDiff, loadA, cellsAt, nAg, packA, List.drop, List.take, List.head?, binA, unA, eqCells, eqCell, negB, fillA, storeA, Ob.with, indexedI, V.oneCell, intOf?, resA, resA1, packR, sealDepth, Int.reduceLT, Int.reduceLE, Int.reduceToNat, Int.reduceNeg, Int.reduceAdd, Int.reduceSub, Int.reduceMul, cond_true, cond_false, Int.reduceBNe, Int.reduceBEq, eq_self, deads, List.replicate, argsF, am24, isNil, app_get0, app_get, app_set0, app_set, c48, c50, c52, pm48, pm50, ga0, ga1, gw, hd, q1, q2, e0, g1, i8, i7, gl, c53]
      · rw [eu]
        have eS : (D.doE w.toNat (a + 1)).S = D.S := by unfold Dv.doE; cases D.out <;> rfl
        exact D1.put okE eS (List.getElem?_set_self hdK) ho (List.getElem?_set_ne D1.apart)
end Go.Am.T


set_option linter.unusedVariables false
set_option linter.unusedSimpArgs false
set_option maxRecDepth 10000
namespace Go.Am.T
attribute [local congr] selV_congr impB_congr
theorem RAt.putR {H H' : Heap} {r s e : Nat} {D D' : Dv} {ver ver' : Nat} {cap cap' : Option Nat} (h : RAt H r s e D) (ok : D'.Ok) (hS : D'.S = D.S) (hE : D'.E = D.E) (hn : D'.n = D.n)
    (hr : H'[r]? = some ⟨1, .var (D'.rcs (.view s ver 0 D.S.length 64 cap) (.view e ver' 0 D.n 1 cap'))⟩) (hs : H[s]? = some ⟨ver, .arr (D.S.flatten.map (V.int .u8))⟩) (he : H[e]? = some ⟨ver', .arr (D.eps.map (V.int .i64))⟩) (ks : H'[s]? = H[s]?) (ke : H'[e]? = H[e]?) : RAt H' r s e D' :=
  ⟨ok, ⟨ver, cap, ver', cap', by rw [hS, hn]; exact hr, by rw [ks, hS]; exact hs, by rw [ke]; unfold Dv.eps at *; rw [hE, hn]; exact he⟩, h.rs, h.re, h.se⟩
theorem rwhole_spec {N n : Nat} (hn : 1 ≤ n) {H : Heap} {r s e : Nat} {D : Dv} (h : RAt H r s e D) :
    ∃ H', callA am N n 47 [.ptr r 1 0] H = some (.bool (!D.lost), H') ∧ H'.length = H.length ∧ (∀ p, p ≠ r → H'[p]? = H[p]?) ∧ RAt H' r s e D.whole := by
  obtain ⟨n, rfl⟩ : ∃ m, n = m + 1 := ⟨n - 1, by omega⟩
  obtain ⟨ver, cap, ver', cap', hr, hs, he⟩ := h.ob
  have ok := h.ok
  have hlt := lt_of_get hr
  have gs : ∀ y : Ob, (H.set r y)[r]? = some y := fun y => List.getElem?_set_self hlt
  have ss : ∀ y z : Ob, (H.set r y).set r z = H.set r z := fun y z => List.set_set ..
  refine ⟨H.set r ⟨1, .var (D.whole.rcs (.view s ver 0 D.S.length 64 cap) (.view e ver' 0 D.n 1 cap'))⟩, ?_, List.length_set, fun p hp => List.getElem?_set_ne (Ne.symm hp), h.putR ok.whole rfl rfl rfl (gs _) hs he (List.getElem?_set_ne h.rs) (List.getElem?_set_ne h.re)⟩
  generalize V.view s ver 0 D.S.length 64 cap = X at *
  generalize V.view e ver' 0 D.n 1 cap' = Y at *
  have e1 : D.whole.rcs X Y = [X, Y, .int .i64 (-1), .bool false, .int .i64 D.done] := rfl
  rw [e1]
  unfold Dv.rcs at hr
  refine call_keep_eq at47 rfl rfl (by decide) (sx_wp ?_)
  simp +contextual -implicitDefEqProofs (maxSteps := 10000000) only [sxb, plainD, stays, ↓selV_wt, ↓selV_wf, ↓impB_wt, ↓impB_wf, ↓selV_nor, ↓impB_nor, ↓selV_nt, ↓selV_nf, ↓impB_nt, ↓impB_nf, ↓selV_true, ↓selV_false, ↓selV_and, ↓impB_true, ↓impB_false, ↓impB_and, ↓prim_pick, ↓selV_nn, ↓impB_nn, doOp, get, ins, del, dels, Nat.reduceLT, Nat.reduceEqDiff, ↓reduceIte, reduceCtorEq, ne_eq, implies_true, prim, YLD, mkA, V.cells, Nat.reduceAdd, Nat.reduceSub, Nat.reduceMul, Nat.reduceLeDiff, loadA, cellsAt, nAg, packA, List.drop, List.take, List.head?, binA, unA, eqCells, eqCell, negB, fillA, storeA, Ob.with, indexedI, V.oneCell, intOf?, resA, resA1, packR, sealDepth, Int.reduceLT, Int.reduceLE, Int.reduceToNat, Int.reduceNeg, Int.reduceAdd, Int.reduceSub, Int.reduceMul, cond_true, cond_false, Int.reduceBNe, Int.reduceBEq, eq_self, deads, List.replicate, argsF, am47, isNil, List.append_nil, hr, hlt, gs, ss]
theorem rl_cut {D : Dv} (ok : D.Ok) : decide (D.rl ≥ 0) = D.cut := by
  unfold Dv.rl
  cases g : D.cut with
  | false => rfl
  | true => exact decide_eq_true (ok.l0 g)
theorem rcut_spec {N n : Nat} (hn : 1 ≤ n) {H : Heap} {r s e : Nat} {D : Dv} (h : RAt H r s e D) (k : Int) (hk : k ≤ 9223372036854775807) :
    ∃ H', callA am N n 46 [.ptr r 1 0, .int .i64 k] H = some (.int .i64 (bif decide (k < 0) then 2 else bif D.cut then 9 else 0), H') ∧ H'.length = H.length ∧ (∀ p, p ≠ r → H'[p]? = H[p]?) ∧ RAt H' r s e (bif (decide (k < 0) || D.cut) then D else D.cutAt k) := by
  obtain ⟨n, rfl⟩ : ∃ m, n = m + 1 := ⟨n - 1, by omega⟩
  obtain ⟨ver, cap, ver', cap', hr, hs, he⟩ := h.ob
  have ok := h.ok
  have hlt := lt_of_get hr
  have gs : ∀ y : Ob, (H.set r y)[r]? = some y := fun y => List.getElem?_set_self hlt
  have ss : ∀ y z : Ob, (H.set r y).set r z = H.set r z := fun y z => List.set_set ..
  have hrl := rl_cut ok
  cases g : decide (k < 0) with
  | true =>
    refine ⟨H, ?_, rfl, fun _ _ => rfl, h⟩
    refine call_keep_eq at46 rfl rfl (by decide) (sx_wp ?_)
    simp +contextual -implicitDefEqProofs (maxSteps := 10000000) only [sxb, plainD, stays, ↓selV_wt, ↓selV_wf, ↓impB_wt, ↓impB_wf, ↓selV_nor, ↓impB_nor, ↓selV_nt, ↓selV_nf, ↓impB_nt, ↓impB_nf, ↓selV_true, ↓selV_false, ↓selV_and, ↓impB_true, ↓impB_false, ↓impB_and, ↓prim_pick, ↓selV_nn, ↓impB_nn, doOp, get, ins, del, dels, Nat.reduceLT, Nat.reduceEqDiff, ↓reduceIte, reduceCtorEq, ne_eq, implies_true, prim, YLD, mkA, V.cells, Nat.reduceAdd, Nat.reduceSub, Nat.reduceMul, Nat.reduceLeDiff, loadA, cellsAt, nAg, packA, List.drop, List.take, List.head?, binA, unA, eqCells, eqCell, negB, fillA, storeA, Ob.with, indexedI, V.oneCell, intOf?, resA, resA1, packR, sealDepth, Int.reduceLT, Int.reduceLE, Int.reduceToNat, Int.reduceNeg, Int.reduceAdd, Int.reduceSub, Int.reduceMul, cond_true, cond_false, Int.reduceBNe, Int.reduceBEq, eq_self, deads, List.replicate, argsF, am46, isNil, List.append_nil, g]
  | false =>
    have k0 : 0 ≤ k := by have := of_decide_eq_false g; omega
    cases gc : D.cut with
    | true =>
      refine ⟨H, ?_, rfl, fun _ _ => rfl, h⟩
      rw [gc] at hrl
      unfold Dv.rcs at hr
      refine call_keep_eq at46 rfl rfl (by decide) (sx_wp ?_)
      simp +contextual -implicitDefEqProofs (maxSteps := 10000000) only [sxb, plainD, stays, ↓selV_wt, ↓selV_wf, ↓impB_wt, ↓impB_wf, ↓selV_nor, ↓impB_nor, ↓selV_nt, ↓selV_nf, ↓impB_nt, ↓impB_nf, ↓selV_true, ↓selV_false, ↓selV_and, ↓impB_true, ↓impB_false, ↓impB_and, ↓prim_pick, ↓selV_nn, ↓impB_nn, doOp, get, ins, del, dels, Nat.reduceLT, Nat.reduceEqDiff, ↓reduceIte, reduceCtorEq, ne_eq, implies_true, prim, YLD, mkA, V.cells, Nat.reduceAdd, Nat.reduceSub, Nat.reduceMul, Nat.reduceLeDiff, loadA, cellsAt, nAg, packA, List.drop, List.take, List.head?, binA, unA, eqCells, eqCell, negB, fillA, storeA, Ob.with, indexedI, V.oneCell, intOf?, resA, resA1, packR, sealDepth, Int.reduceLT, Int.reduceLE, Int.reduceToNat, Int.reduceNeg, Int.reduceAdd, Int.reduceSub, Int.reduceMul, cond_true, cond_false, Int.reduceBNe, Int.reduceBEq, eq_self, deads, List.replicate, argsF, am46, isNil, List.append_nil, g, hr, hlt, hrl]
    | false =>
      rw [gc] at hrl
      refine ⟨H.set r ⟨1, .var ((D.cutAt k).rcs (.view s ver 0 D.S.length 64 cap) (.view e ver' 0 D.n 1 cap'))⟩, ?_, List.length_set, fun p hp => List.getElem?_set_ne (Ne.symm hp), h.putR (ok.cutAt k0 hk) rfl rfl rfl (gs _) hs he (List.getElem?_set_ne h.rs) (List.getElem?_set_ne h.re)⟩
      generalize V.view s ver 0 D.S.length 64 cap = X at *
      generalize V.view e ver' 0 D.n 1 cap' = Y at *
      have e1 : (D.cutAt k).rcs X Y = [X, Y, .int .i64 k, .bool false, .int .i64 D.done] := rfl
      rw [e1]
      unfold Dv.rcs at hr
      refine call_keep_eq at46 rfl rfl (by decide) (sx_wp ?_)
      simp +contextual -implicitDefEqProofs (maxSteps := 10000000) only [sxb, plainD, stays, ↓selV_wt, ↓selV_wf, ↓impB_wt, ↓impB_wf, ↓selV_nor, ↓impB_nor, ↓selV_nt, ↓selV_nf, ↓impB_nt, ↓impB_nf, ↓selV_true, ↓selV_false, ↓selV_and, ↓impB_true, ↓impB_false, ↓impB_and, ↓prim_pick, ↓selV_nn, ↓impB_nn, doOp, get, ins, del, dels, Nat.reduceLT, Nat.reduceEqDiff, ↓reduceIte, reduceCtorEq, ne_eq, implies_true, prim, YLD, mkA, V.cells, Nat.reduceAdd, Nat.reduceSub, Nat.reduceMul, Nat.reduceLeDiff, loadA, cellsAt, nAg, packA, List.drop, List.take, List.head?, binA, unA, eqCells, eqCell, negB, fillA, storeA, Ob.with, indexedI, V.oneCell, intOf?, resA, resA1, packR, sealDepth, Int.reduceLT, Int.reduceLE, Int.reduceToNat, Int.reduceNeg, Int.reduceAdd, Int.reduceSub, Int.reduceMul, cond_true, cond_false, Int.reduceBNe, Int.reduceBEq, eq_self, deads, List.replicate, argsF, am46, isNil, List.append_nil, g, hr, hlt, hrl, gs, ss]
theorem set_one {l : List V} {i : Nat} {x : V} (hi : i < l.length) : setRange l i [x] = l.set i x := by
  unfold setRange
  rw [List.set_eq_take_append_cons_drop, if_pos hi, List.append_assoc]
  rfl
theorem eps_set {D : Dv} (h : D.Ok) {i : Nat} (hi : i < D.n) (v : Int) : setRange (D.eps.map (V.int .i64)) i [.int .i64 v] = (D.setE i v).eps.map (V.int .i64) := by
  rw [set_one (by rw [List.length_map, eps_len h]; exact hi), ← List.map_set]
  show _ = ((D.E.set i v).take D.n).map _
  rw [Dv.eps, List.take_set]
theorem RAt.putE {H : Heap} {r s e : Nat} {D : Dv} (h : RAt H r s e D) {i : Nat} (hi : i < D.n) {v : Int} (hv : 0 ≤ v ∧ v ≤ 2147483647) (ho : D.out = false) {ver ver' : Nat} {cap cap' : Option Nat}
    (hr : H[r]? = some ⟨1, .var (D.rcs (.view s ver 0 D.S.length 64 cap) (.view e ver' 0 D.n 1 cap'))⟩) (hs : H[s]? = some ⟨ver, .arr (D.S.flatten.map (V.int .u8))⟩) (he : H[e]? = some ⟨ver', .arr (D.eps.map (V.int .i64))⟩) :
    RAt ((H.set r ⟨1, .var (D.tick.rcs (.view s ver 0 D.S.length 64 cap) (.view e ver' 0 D.n 1 cap'))⟩).set e ⟨ver', .arr ((D.setE i v).eps.map (V.int .i64))⟩) r s e (D.tick.setE i v) := by
  obtain ⟨q1, q2, q3⟩ := h.lt
  refine ⟨(h.ok.tick ho).setE (D := D.tick) hi hv, ⟨ver, cap, ver', cap', ?_, ?_, ?_⟩, h.rs, h.re, h.se⟩
  · rw [List.getElem?_set_ne (Ne.symm h.re), List.getElem?_set_self q1]; rfl
  · rw [List.getElem?_set_ne (Ne.symm h.se), List.getElem?_set_ne h.rs]; exact hs
  · rw [List.getElem?_set_self (by rw [List.length_set]; exact q3)]; rfl
theorem RAt.putLose {H : Heap} {r s e : Nat} {D : Dv} (h : RAt H r s e D) {ver ver' : Nat} {cap cap' : Option Nat}
    (hr : H[r]? = some ⟨1, .var (D.rcs (.view s ver 0 D.S.length 64 cap) (.view e ver' 0 D.n 1 cap'))⟩) (hs : H[s]? = some ⟨ver, .arr (D.S.flatten.map (V.int .u8))⟩) (he : H[e]? = some ⟨ver', .arr (D.eps.map (V.int .i64))⟩) :
    RAt (H.set r ⟨1, .var (D.lose.rcs (.view s ver 0 D.S.length 64 cap) (.view e ver' 0 D.n 1 cap'))⟩) r s e D.lose :=
  h.putR h.ok.lose rfl rfl rfl (List.getElem?_set_self h.lt.1) hs he (List.getElem?_set_ne h.rs) (List.getElem?_set_ne h.re)
theorem rup_spec {N n : Nat} (hn : 2 ≤ n) {H : Heap} {r s e : Nat} {D : Dv} (h : RAt H r s e D) (i : Int) :
    ∃ H', callA am N n 44 [.ptr r 1 0, .int .i64 i] H = some (.tup (D.upR i), H') ∧ H'.length = H.length ∧ (∀ p, p ≠ r → p ≠ e → H'[p]? = H[p]?) ∧ RAt H' r s e (D.up i) := by
  obtain ⟨n, rfl⟩ : ∃ m, n = m + 1 := ⟨n - 1, by omega⟩
  have c37 := @repoch_spec N n (by omega) H _ _ h.looks i
  have ok := h.ok
  cases g : D.isNode i with
  | false =>
    refine ⟨H, ?_, rfl, fun _ _ _ => rfl, by simpa [Dv.up, g] using h⟩
    have e1 : D.upR i = [.int .i64 0, .int .i64 2] := by simp [Dv.upR, g]
    rw [g] at c37
    rw [e1]
    refine call_keep_eq at44 rfl rfl (by decide) (sx_wp ?_)
    simp +contextual -implicitDefEqProofs (maxSteps := 10000000) only [sxb, plainD, stays, ↓selV_wt, ↓selV_wf, ↓impB_wt, ↓impB_wf, ↓selV_nor, ↓impB_nor, ↓selV_nt, ↓selV_nf, ↓impB_nt, ↓impB_nf, ↓selV_true, ↓selV_false, ↓selV_and, ↓impB_true, ↓impB_false, ↓impB_and, ↓prim_pick, ↓selV_nn, ↓impB_nn, doOp, get, ins, del, dels, Nat.reduceLT, Nat.reduceEqDiff, ↓reduceIte, reduceCtorEq, ne_eq, implies_true, prim, YLD, mkA, V.cells, Nat.reduceAdd, Nat.reduceSub, Nat.reduceMul, Nat.reduceLeDiff, loadA, cellsAt, nAg, packA, List.drop, List.take, List.head?, binA, unA, eqCells, eqCell, negB, fillA, storeA, Ob.with, indexedI, V.oneCell, intOf?, resA, resA1, packR, sealDepth, Int.reduceLT, Int.reduceLE, Int.reduceToNat, Int.reduceNeg, Int.reduceAdd, Int.reduceSub, Int.reduceMul, cond_true, cond_false, Int.reduceBNe, Int.reduceBEq, eq_self, deads, List.replicate, argsF, am44, isNil, List.append_nil, c37]
  | true =>
    rw [g] at c37
    obtain ⟨g1, g2⟩ := isNode_true g
    cases gm : D.ep i == 2147483647 with
    | true =>
      refine ⟨H, ?_, rfl, fun _ _ _ => rfl, by simpa [Dv.up, g, gm] using h⟩
      have e1 : D.upR i = [.int .i64 0, .int .i64 5] := by simp [Dv.upR, g, gm]
      rw [e1]
      refine call_keep_eq at44 rfl rfl (by decide) (sx_wp ?_)
      simp +contextual -implicitDefEqProofs (maxSteps := 10000000) only [sxb, plainD, stays, ↓selV_wt, ↓selV_wf, ↓impB_wt, ↓impB_wf, ↓selV_nor, ↓impB_nor, ↓selV_nt, ↓selV_nf, ↓impB_nt, ↓impB_nf, ↓selV_true, ↓selV_false, ↓selV_and, ↓impB_true, ↓impB_false, ↓impB_and, ↓prim_pick, ↓selV_nn, ↓impB_nn, doOp, get, ins, del, dels, Nat.reduceLT, Nat.reduceEqDiff, ↓reduceIte, reduceCtorEq, ne_eq, implies_true, prim, YLD, mkA, V.cells, Nat.reduceAdd, Nat.reduceSub, Nat.reduceMul, Nat.reduceLeDiff, loadA, cellsAt, nAg, packA, List.drop, List.take, List.head?, binA, unA, eqCells, eqCell, negB, fillA, storeA, Ob.with, indexedI, V.oneCell, intOf?, resA, resA1, packR, sealDepth, Int.reduceLT, Int.reduceLE, Int.reduceToNat, Int.reduceNeg, Int.reduceAdd, Int.reduceSub, Int.reduceMul, cond_true, cond_false, Int.reduceBNe, Int.reduceBEq, eq_self, deads, List.replicate, argsF, am44, isNil, List.append_nil, c37, gm]
    | false =>
      have hb := ep_bound ok i
      have hne : D.ep i ≠ 2147483647 := by simpa using gm
      have w : IntKind.i64.wrap (D.ep i + 1) = D.ep i + 1 := wrap64 (by omega) (by omega)
      have e1 : D.upR i = [.int .i64 (D.ep i + 1), .int .i64 0] := by simp [Dv.upR, g, gm]
      have eu : D.up i = D.doE i.toNat (D.ep i + 1) := by simp [Dv.up, g, gm]
      obtain ⟨n, rfl⟩ : ∃ m, n = m + 1 := ⟨n - 1, by omega⟩
      obtain ⟨ver, cap, ver', cap', hr, hs, he⟩ := h.ob
      obtain ⟨q1, q2, q3⟩ := h.lt
      rw [e1, eu]
      cases go : D.out with
      | true =>
        have c61 := @rdoes_no N n H r D _ _ hr ok go
        have hres := h.putLose hr hs he
        have ed : D.doE i.toNat (D.ep i + 1) = D.lose := by simp only [Dv.doE, go, cond_true]
        rw [ed]
        refine ⟨H.set r ⟨1, .var (D.lose.rcs (.view s ver 0 D.S.length 64 cap) (.view e ver' 0 D.n 1 cap'))⟩, ?_, List.length_set, fun p hp _ => List.getElem?_set_ne (Ne.symm hp), hres⟩
        clear hres
        generalize D.lose.rcs (.view s ver 0 D.S.length 64 cap) (.view e ver' 0 D.n 1 cap') = cs' at *
        refine call_keep_eq at44 rfl rfl (by decide) (sx_wp ?_)
        simp +contextual -implicitDefEqProofs (maxSteps := 10000000) only [sxb, plainD, stays, ↓selV_wt, ↓selV_wf, ↓impB_wt, ↓impB_wf, ↓selV_nor, ↓impB_nor, ↓selV_nt, ↓selV_nf, ↓impB_nt, ↓impB_nf, ↓selV_true, ↓selV_false, ↓selV_and, ↓impB_true, ↓impB_false, ↓impB_and, ↓prim_pick, ↓selV_nn, ↓impB_nn, doOp, get, ins, del, dels, Nat.reduceLT, Nat.reduceEqDiff, ↓reduceIte, reduceCtorEq, ne_eq, implies_true, prim, YLD, mkA, V.cells, Nat.reduceAdd, Nat.reduceSub, Nat.reduceMul, Nat.reduceLeDiff, loadA, cellsAt, nAg, packA, List.drop, List.take, List.head?, binA, unA, eqCells, eqCell, negB, fillA, storeA, Ob.with, indexedI, V.oneCell, intOf?, resA, resA1, packR, sealDepth, Int.reduceLT, Int.reduceLE, Int.reduceToNat, Int.reduceNeg, Int.reduceAdd, Int.reduceSub, Int.reduceMul, cond_true, cond_false, Int.reduceBNe, Int.reduceBEq, eq_self, deads, List.replicate, argsF, am44, isNil, List.append_nil, c37, gm, c61, w]
      | false =>
        have c61 := @rdoes_yes N n H r D _ _ hr ok go
        have hres := h.putE (i := i.toNat) (by omega) (v := D.ep i + 1) (by omega) go hr hs he
        have ed : D.doE i.toNat (D.ep i + 1) = D.tick.setE i.toNat (D.ep i + 1) := by simp only [Dv.doE, go, cond_false]
        rw [ed]
        refine ⟨(H.set r ⟨1, .var (D.tick.rcs (.view s ver 0 D.S.length 64 cap) (.view e ver' 0 D.n 1 cap'))⟩).set e ⟨ver', .arr ((D.setE i.toNat (D.ep i + 1)).eps.map (V.int .i64))⟩, ?_, by rw [List.length_set, List.length_set], fun p hp hpe => by rw [List.getElem?_set_ne (Ne.symm hpe), List.getElem?_set_ne (Ne.symm hp)], hres⟩
        have gr : ∀ y : Ob, (H.set r y)[r]? = some y := fun y => List.getElem?_set_self q1
        have ge : ∀ y : Ob, (H.set r y)[e]? = some ⟨ver', .arr (D.eps.map (V.int .i64))⟩ := fun y => by rw [List.getElem?_set_ne h.re]; exact he
        have le := (List.length_map (f := V.int .i64) (as := D.eps)).trans (eps_len ok)
        have se := fun v => @eps_set D ok i.toNat (by omega) v
        have i1 : i.toNat + 1 ≤ D.n := by omega
        have e2 : D.tick.rcs (.view s ver 0 D.S.length 64 cap) (.view e ver' 0 D.n 1 cap') = [.view s ver 0 D.S.length 64 cap, .view e ver' 0 D.n 1 cap', .int .i64 D.tick.rl, .bool D.lost, .int .i64 D.tick.done] := rfl
        rw [e2] at c61 ⊢
        refine call_keep_eq at44 rfl rfl (by decide) (sx_wp ?_)
        simp +contextual -implicitDefEqProofs (maxSteps := 10000000) only [sxb, plainD, stays, ↓selV_wt, ↓selV_wf, ↓impB_wt, ↓impB_wf, ↓selV_nor, ↓impB_nor, ↓selV_nt, ↓selV_nf, ↓impB_nt, ↓impB_nf, ↓selV_true, ↓selV_false, ↓selV_and, ↓impB_true, ↓impB_false, ↓impB_and, ↓prim_pick, ↓selV_nn, ↓impB_nn, doOp, get, ins, del, dels, Nat.reduceLT, Nat.reduceEqDiff, ↓reduceIte, reduceCtorEq, ne_eq, implies_true, prim, YLD, mkA, V.cells, Nat.reduceAdd, Nat.reduceSub, Nat.reduceMul, Nat.reduceLeDiff, loadA, cellsAt, nAg, packA, List.drop, List.take, List.head?, binA, unA, eqCells, eqCell, negB, fillA, storeA, Ob.with, indexedI, V.oneCell, intOf?, resA, resA1, packR, sealDepth, Int.reduceLT, Int.reduceLE, Int.reduceToNat, Int.reduceNeg, Int.reduceAdd, Int.reduceSub, Int.reduceMul, cond_true, cond_false, Int.reduceBNe, Int.reduceBEq, eq_self, deads, List.replicate, argsF, am44, isNil, List.append_nil, c37, gm, c61, w, gr, ge, iaddrSA, g1, g2, le, se, i1, q3]
end Go.Am.T


set_option linter.unusedVariables false
set_option linter.unusedSimpArgs false
set_option maxRecDepth 10000
namespace Go.Am.T
attribute [local congr] selV_congr impB_congr
theorem rwho_zero {D : Dv} {i e : Int} (h : D.rwho i e = 0) : D.isNode i = true ∧ 0 ≤ e ∧ e ≤ D.ep i := by
  unfold Dv.rwho at h
  cases g : (!D.isNode i || (decide (e < 0) || decide (e > D.ep i))) with
  | true => rw [g] at h; exact absurd h (by decide)
  | false =>
    simp only [Bool.or_eq_false_iff, Bool.not_eq_false', decide_eq_false_iff_not] at g
    exact ⟨g.1, by omega, by omega⟩
theorem rwho_bad {D : Dv} {i e : Int} {b : Bool} (h : D.rwho i e ≠ 0) : D.who i e b = 2 := by
  unfold Dv.rwho at h
  cases g : (!D.isNode i || (decide (e < 0) || decide (e > D.ep i))) with
  | false => rw [g] at h; exact absurd rfl h
  | true =>
    have : (!D.isNode i || (decide (e < 0) || (decide (e > D.ep i) || !b))) = true := by
      simp only [Bool.or_eq_true] at g ⊢
      rcases g with g | g | g
      · exact .inl g
      · exact .inr (.inl g)
      · exact .inr (.inr (.inl g))
    unfold Dv.who
    rw [this]; rfl
theorem who_no {D : Dv} {i e : Int} : D.who i e false = 2 := by
  have : (!D.isNode i || (decide (e < 0) || (decide (e > D.ep i) || !false))) = true := by simp
  unfold Dv.who
  rw [this]; rfl
theorem who_yes {D : Dv} {i e : Int} (h : D.rwho i e = 0) : D.who i e true = bif decide (e < D.ep i) then 8 else 0 := by
  obtain ⟨h1, h2, h3⟩ := rwho_zero h
  have : (!D.isNode i || (decide (e < 0) || (decide (e > D.ep i) || !true))) = false := by simp [h1]; omega
  unfold Dv.who
  rw [this]; rfl
theorem rfence_spec {N n : Nat} (hn : 2 ≤ n) {H : Heap} {r s e : Nat} {D : Dv} (h : RAt H r s e D) (i x w a : Int) :
    ∃ H', callA am N n 45 [.ptr r 1 0, .int .i64 i, .int .i64 x, .int .i64 w, .int .i64 a] H = some (.int .i64 (D.who i x (D.may w a)), H') ∧ H'.length = H.length ∧ (∀ p, p ≠ r → p ≠ e → H'[p]? = H[p]?) ∧ RAt H' r s e (D.fence i x w a) := by
  obtain ⟨n, rfl⟩ : ∃ m, n = m + 1 := ⟨n - 1, by omega⟩
  have c60 := @rwho_spec N n (by omega) H _ _ h.looks i x
  have ok := h.ok
  obtain ⟨ver, cap, ver', cap', hr, hs, he⟩ := h.ob
  obtain ⟨q1, q2, q3⟩ := h.lt
  have e2 : ∀ D' : Dv, D'.rcs (.view s ver 0 D.S.length 64 cap) (.view e ver' 0 D.n 1 cap') = [.view s ver 0 D.S.length 64 cap, .view e ver' 0 D.n 1 cap', .int .i64 D'.rl, .bool D'.lost, .int .i64 D'.done] := fun D' => rfl
  have hr' := hr
  rw [e2] at hr'
  have stay : D.who i x (D.may w a) ≠ 0 → D.fence i x w a = D := fun hne => by
    have : (D.who i x (D.may w a) == 0) = false := by simpa using hne
    simp [Dv.fence, this]
  by_cases h0 : D.rwho i x = 0
  · obtain ⟨gi, x0, x1⟩ := rwho_zero h0
    obtain ⟨i0, i1⟩ := isNode_true gi
    rw [h0] at c60
    cases hm : D.may w a with
    | false =>
      rw [hm] at stay
      rw [who_no, stay (by rw [who_no]; decide)]
      refine ⟨H, ?_, rfl, fun _ _ _ => rfl, h⟩
      have gm : (decide (w < 0) || (decide (w ≥ (D.n : Int)) || (decide (a < 0) || decide (a > 2147483646)))) = true := by
        simp only [Dv.may, Dv.isNode, Bool.and_eq_false_iff, decide_eq_false_iff_not] at hm
        simp only [Bool.or_eq_true, decide_eq_true_eq]
        omega
      refine call_keep_eq at45 rfl rfl (by decide) (sx_wp ?_)
      simp +contextual -implicitDefEqProofs (maxSteps := 10000000) only [sxb, plainD, stays, ↓selV_wt, ↓selV_wf, ↓impB_wt, ↓impB_wf, ↓selV_nor, ↓impB_nor, ↓selV_nt, ↓selV_nf, ↓impB_nt, ↓impB_nf, ↓selV_true, ↓selV_false, ↓selV_and, ↓impB_true, ↓impB_false, ↓impB_and, ↓prim_pick, ↓selV_nn, ↓impB_nn, doOp, get, ins, del, dels, Nat.reduceLT, Nat.reduceEqDiff, ↓reduceIte, reduceCtorEq, ne_eq, implies_true, prim, YLD, mkA, V.cells, Nat.reduceAdd, Nat.reduceSub, Nat.reduceMul, Nat.reduceLeDiff, loadA, cellsAt, nAg, packA, List.drop, List.take, List.head?, binA, unA, eqCells, eqCell, negB, fillA, storeA, Ob.with, indexedI, V.oneCell, intOf?, resA, resA1, packR, sealDepth, Int.reduceLT, Int.reduceLE, Int.reduceToNat, Int.reduceNeg, Int.reduceAdd, Int.reduceSub, Int.reduceMul, cond_true, cond_false, Int.reduceBNe, Int.reduceBEq, eq_self, deads, List.replicate, argsF, am45, isNil, List.append_nil, c60, hr', lenA, gm]
    | true =>
      rw [hm] at stay
      rw [who_yes h0]
      have gm : (decide (w < 0) || (decide (w ≥ (D.n : Int)) || (decide (a < 0) || decide (a > 2147483646)))) = false := by
        simp only [Dv.may, Dv.isNode, Bool.and_eq_true, decide_eq_true_eq] at hm
        simp only [Bool.or_eq_false_iff, decide_eq_false_iff_not]
        omega
      have hm' := hm
      simp only [Dv.may, Bool.and_eq_true, decide_eq_true_eq] at hm'
      obtain ⟨gw, a0, a1⟩ := hm'
      obtain ⟨w0, w1⟩ := isNode_true gw
      have le := (List.length_map (f := V.int .i64) (as := D.eps)).trans (eps_len ok)
      have hiE : ∀ {j : Int}, 0 ≤ j → j < (D.n : Int) → List.take 1 (List.drop j.toNat (D.eps.map (V.int .i64))) = [.int .i64 (D.ep j)] := fun {j} h1 h2 => by
        have hlt : j.toNat < D.eps.length := by rw [eps_len ok]; omega
        have e3 := eps_at ok (i := j.toNat) (by omega)
        rw [← List.map_drop, List.drop_eq_getElem_cons hlt]
        rw [List.getElem?_eq_getElem hlt] at e3
        have e4 := Option.some.inj e3
        rw [e4]; rfl
      have ti := hiE i0 i1
      have tw := hiE w0 w1
      have n1 : i.toNat + 1 ≤ D.n := by omega
      have n2 : w.toNat + 1 ≤ D.n := by omega
      cases gx : decide (x < D.ep i) with
      | true =>
        have e8 : D.who i x true = 8 := by rw [who_yes h0, gx]; rfl
        rw [stay (by rw [e8]; decide)]
        refine ⟨H, ?_, rfl, fun _ _ _ => rfl, h⟩
        refine call_keep_eq at45 rfl rfl (by decide) (sx_wp ?_)
        simp +contextual -implicitDefEqProofs (maxSteps := 10000000) only [sxb, plainD, stays, ↓selV_wt, ↓selV_wf, ↓impB_wt, ↓impB_wf, ↓selV_nor, ↓impB_nor, ↓selV_nt, ↓selV_nf, ↓impB_nt, ↓impB_nf, ↓selV_true, ↓selV_false, ↓selV_and, ↓impB_true, ↓impB_false, ↓impB_and, ↓prim_pick, ↓selV_nn, ↓impB_nn, doOp, get, ins, del, dels, Nat.reduceLT, Nat.reduceEqDiff, ↓reduceIte, reduceCtorEq, ne_eq, implies_true, prim, YLD, mkA, V.cells, Nat.reduceAdd, Nat.reduceSub, Nat.reduceMul, Nat.reduceLeDiff, loadA, cellsAt, nAg, packA, List.drop, List.take, List.head?, binA, unA, eqCells, eqCell, negB, fillA, storeA, Ob.with, indexedI, V.oneCell, intOf?, resA, resA1, packR, sealDepth, Int.reduceLT, Int.reduceLE, Int.reduceToNat, Int.reduceNeg, Int.reduceAdd, Int.reduceSub, Int.reduceMul, cond_true, cond_false, Int.reduceBNe, Int.reduceBEq, eq_self, deads, List.replicate, argsF, am45, isNil, List.append_nil, c60, hr', lenA, gm, he, iaddrSA, i0, i1, n1, le, ti, gx]
      | false =>
        have e0 : D.who i x true = 0 := by rw [who_yes h0, gx]; rfl
        have w2 : IntKind.i64.wrap (a + 1) = a + 1 := wrap64 (by omega) (by omega)
        cases gl : decide (D.ep w ≤ a) with
        | false =>
          have eF : D.fence i x w a = D := by simp [Dv.fence, gl]
          rw [eF]
          refine ⟨H, ?_, rfl, fun _ _ _ => rfl, h⟩
          refine call_keep_eq at45 rfl rfl (by decide) (sx_wp ?_)
          simp +contextual -implicitDefEqProofs (maxSteps := 10000000) only [sxb, plainD, stays, ↓selV_wt, ↓selV_wf, ↓impB_wt, ↓impB_wf, ↓selV_nor, ↓impB_nor, ↓selV_nt, ↓selV_nf, ↓impB_nt, ↓impB_nf, ↓selV_true, ↓selV_false, ↓selV_and, ↓impB_true, ↓impB_false, ↓impB_and, ↓prim_pick, ↓selV_nn, ↓impB_nn, doOp, get, ins, del, dels, Nat.reduceLT, Nat.reduceEqDiff, ↓reduceIte, reduceCtorEq, ne_eq, implies_true, prim, YLD, mkA, V.cells, Nat.reduceAdd, Nat.reduceSub, Nat.reduceMul, Nat.reduceLeDiff, loadA, cellsAt, nAg, packA, List.drop, List.take, List.head?, binA, unA, eqCells, eqCell, negB, fillA, storeA, Ob.with, indexedI, V.oneCell, intOf?, resA, resA1, packR, sealDepth, Int.reduceLT, Int.reduceLE, Int.reduceToNat, Int.reduceNeg, Int.reduceAdd, Int.reduceSub, Int.reduceMul, cond_true, cond_false, Int.reduceBNe, Int.reduceBEq, eq_self, deads, List.replicate, argsF, am45, isNil, List.append_nil, c60, hr', lenA, gm, he, iaddrSA, i0, i1, n1, le, ti, gx, w0, w1, n2, tw, gl, pm61]
        | true =>
          have eF : D.fence i x w a = D.doE w.toNat (a + 1) := by unfold Dv.fence; rw [hm, e0, gl]; rfl
          rw [eF]
          obtain ⟨n, rfl⟩ : ∃ m, n = m + 1 := ⟨n - 1, by omega⟩
          cases go : D.out with
          | true =>
            have c61 := @rdoes_no N n H r D _ _ hr ok go
            have hres := h.putLose hr hs he
            have ed : D.doE w.toNat (a + 1) = D.lose := by simp only [Dv.doE, go, cond_true]
            rw [ed]
            refine ⟨H.set r ⟨1, .var (D.lose.rcs (.view s ver 0 D.S.length 64 cap) (.view e ver' 0 D.n 1 cap'))⟩, ?_, List.length_set, fun p hp _ => List.getElem?_set_ne (Ne.symm hp), hres⟩
            clear hres
            generalize D.lose.rcs (.view s ver 0 D.S.length 64 cap) (.view e ver' 0 D.n 1 cap') = cs' at *
            refine call_keep_eq at45 rfl rfl (by decide) (sx_wp ?_)
            simp +contextual -implicitDefEqProofs (maxSteps := 10000000) only [sxb, plainD, stays, ↓selV_wt, ↓selV_wf, ↓impB_wt, ↓impB_wf, ↓selV_nor, ↓impB_nor, ↓selV_nt, ↓selV_nf, ↓impB_nt, ↓impB_nf, ↓selV_true, ↓selV_false, ↓selV_and, ↓impB_true, ↓impB_false, ↓impB_and, ↓prim_pick, ↓selV_nn, ↓impB_nn, doOp, get, ins, del, dels, Nat.reduceLT, Nat.reduceEqDiff, ↓reduceIte, reduceCtorEq, ne_eq, implies_true, prim, YLD, mkA, V.cells, Nat.reduceAdd, Nat.reduceSub, Nat.reduceMul, Nat.reduceLeDiff, loadA, cellsAt, nAg, packA, List.drop, List.take, List.head?, binA, unA, eqCells, eqCell, negB, fillA, storeA, Ob.with, indexedI, V.oneCell, intOf?, resA, resA1, packR, sealDepth, Int.reduceLT, Int.reduceLE, Int.reduceToNat, Int.reduceNeg, Int.reduceAdd, Int.reduceSub, Int.reduceMul, cond_true, cond_false, Int.reduceBNe, Int.reduceBEq, eq_self, deads, List.replicate, argsF, am45, isNil, List.append_nil, c60, hr', lenA, gm, he, iaddrSA, i0, i1, n1, le, ti, gx, w0, w1, n2, tw, gl, pm61, c61]
          | false =>
            have c61 := @rdoes_yes N n H r D _ _ hr ok go
            have hres := h.putE (i := w.toNat) (by omega) (v := a + 1) (by omega) go hr hs he
            have ed : D.doE w.toNat (a + 1) = D.tick.setE w.toNat (a + 1) := by simp only [Dv.doE, go, cond_false]
            rw [ed]
            refine ⟨(H.set r ⟨1, .var (D.tick.rcs (.view s ver 0 D.S.length 64 cap) (.view e ver' 0 D.n 1 cap'))⟩).set e ⟨ver', .arr ((D.setE w.toNat (a + 1)).eps.map (V.int .i64))⟩, ?_, by rw [List.length_set, List.length_set], fun p hp hpe => by rw [List.getElem?_set_ne (Ne.symm hpe), List.getElem?_set_ne (Ne.symm hp)], hres⟩
            clear hres
            have gr : ∀ y : Ob, (H.set r y)[r]? = some y := fun y => List.getElem?_set_self q1
            have ge : ∀ y : Ob, (H.set r y)[e]? = some ⟨ver', .arr (D.eps.map (V.int .i64))⟩ := fun y => by rw [List.getElem?_set_ne h.re]; exact he
            have se := fun v => @eps_set D ok w.toNat (by omega) v
            rw [e2] at c61 ⊢
            refine call_keep_eq at45 rfl rfl (by decide) (sx_wp ?_)
            simp +contextual -implicitDefEqProofs (maxSteps := 10000000) only [sxb, plainD, stays, ↓selV_wt, ↓selV_wf, ↓impB_wt, ↓impB_wf, ↓selV_nor, ↓impB_nor, ↓selV_nt, ↓selV_nf, ↓impB_nt, ↓impB_nf, ↓selV_true, ↓selV_false, ↓selV_and, ↓impB_true, ↓impB_false, ↓impB_and, ↓prim_pick, ↓selV_nn, ↓impB_nn, doOp, get, ins, del, dels, Nat.reduceLT, Nat.reduceEqDiff, ↓reduceIte, reduceCtorEq, ne_eq, implies_true, prim, YLD, mkA, V.cells, Nat.reduceAdd, Nat.reduceSub, Nat.reduceMul, Nat.reduceLeDiff, loadA, cellsAt, nAg, packA, List.drop, List.take, List.head?, binA, unA, eqCells, eqCell, negB, fillA, storeA, Ob.with, indexedI, V.oneCell, intOf?, resA, resA1, packR, sealDepth, Int.reduceLT, Int.reduceLE, Int.reduceToNat, Int.reduceNeg, Int.reduceAdd, Int.reduceSub, Int.reduceMul, cond_true, cond_false, Int.reduceBNe, Int.reduceBEq, eq_self, deads, List.replicate, argsF, am45, isNil, List.append_nil, c60, hr', lenA, gm, he, iaddrSA, i0, i1, n1, le, ti, gx, w0, w1, n2, tw, gl, pm61, c61, gr, ge, se, w2, q3]
  · have hne : (D.rwho i x != 0) = true := by simpa using h0
    rw [rwho_bad h0, stay (by rw [rwho_bad h0]; decide)]
    refine ⟨H, ?_, rfl, fun _ _ _ => rfl, h⟩
    refine call_keep_eq at45 rfl rfl (by decide) (sx_wp ?_)
    simp +contextual -implicitDefEqProofs (maxSteps := 10000000) only [sxb, plainD, stays, ↓selV_wt, ↓selV_wf, ↓impB_wt, ↓impB_wf, ↓selV_nor, ↓impB_nor, ↓selV_nt, ↓selV_nf, ↓impB_nt, ↓impB_nf, ↓selV_true, ↓selV_false, ↓selV_and, ↓impB_true, ↓impB_false, ↓impB_and, ↓prim_pick, ↓selV_nn, ↓impB_nn, doOp, get, ins, del, dels, Nat.reduceLT, Nat.reduceEqDiff, ↓reduceIte, reduceCtorEq, ne_eq, implies_true, prim, YLD, mkA, V.cells, Nat.reduceAdd, Nat.reduceSub, Nat.reduceMul, Nat.reduceLeDiff, loadA, cellsAt, nAg, packA, List.drop, List.take, List.head?, binA, unA, eqCells, eqCell, negB, fillA, storeA, Ob.with, indexedI, V.oneCell, intOf?, resA, resA1, packR, sealDepth, Int.reduceLT, Int.reduceLE, Int.reduceToNat, Int.reduceNeg, Int.reduceAdd, Int.reduceSub, Int.reduceMul, cond_true, cond_false, Int.reduceBNe, Int.reduceBEq, eq_self, deads, List.replicate, argsF, am45, isNil, List.append_nil, c60, hne]
end Go.Am.T


set_option linter.unusedVariables false
set_option linter.unusedSimpArgs false
set_option maxRecDepth 10000
namespace Go.Am.T
attribute [local congr] selV_congr impB_congr
def Dv.setS (D : Dv) (i : Nat) (v : List Int) : Dv := { D with S := D.S.set i v }
theorem Dv.Ok.setS {D : Dv} (h : D.Ok) (i : Nat) {v : List Int} (hv : v.length = 64) : (D.setS i v).Ok := by
  refine ⟨h.e8, h.n1, h.n8, by simpa [Dv.setS] using h.s1, by simpa [Dv.setS] using h.s4, fun s hs => ?_, h.l0, h.l1, h.z, h.eb⟩
  rcases List.mem_or_eq_of_mem_set hs with hs | hs
  · exact h.sec s hs
  · rw [hs]; exact hv
theorem flat_at : ∀ {S : List (List Int)} {i : Nat}, (∀ s ∈ S, s.length = 64) → i < S.length → List.take 64 (List.drop (i * 64) (S.flatten.map (V.int .u8))) = (S.getD i zeroS).map (V.int .u8)
  | s :: S, 0, h, _ => by
    have hs := h s (by simp)
    rw [Nat.zero_mul, List.drop_zero, List.flatten_cons, List.map_append, List.take_append_of_le_length (by simp [hs]), List.take_of_length_le (by simp [hs])]
    rfl
  | s :: S, i + 1, h, hi => by
    have hs := h s (by simp)
    rw [List.flatten_cons, List.map_append, List.drop_append, List.drop_eq_nil_of_le (by simp; omega), List.nil_append, List.length_map, hs, show (i + 1) * 64 - 64 = i * 64 by omega,
      flat_at (S := S) (fun t ht => h t (by simp [ht])) (by simpa using hi)]
    rfl
theorem flat_set : ∀ {S : List (List Int)} {i : Nat} {v : List Int}, (∀ s ∈ S, s.length = 64) → v.length = 64 → i < S.length → setRange (S.flatten.map (V.int .u8)) (i * 64) (v.map (V.int .u8)) = (S.set i v).flatten.map (V.int .u8)
  | s :: S, 0, v, h, hv, _ => by
    have hs := h s (by simp)
    unfold setRange
    rw [Nat.zero_mul, List.take_zero, List.nil_append, Nat.zero_add, List.length_map, hv, List.flatten_cons, List.map_append, List.drop_append, List.drop_eq_nil_of_le (by simp [hs]), List.nil_append, List.length_map, hs]
    simp
  | s :: S, i + 1, v, h, hv, hi => by
    have hs := h s (by simp)
    have ih := flat_set (S := S) (i := i) (v := v) (fun t ht => h t (by simp [ht])) hv (by simpa using hi)
    unfold setRange at ih ⊢
    have e1 : (i + 1) * 64 = (s.map (V.int .u8)).length + i * 64 := by rw [List.length_map, hs]; omega
    rw [List.flatten_cons, List.map_append, e1, List.take_length_add_append, Nat.add_assoc, List.drop_length_add_append, List.append_assoc, List.append_assoc, ← List.append_assoc (List.take _ _), ih, List.set_cons_succ, List.flatten_cons, List.map_append]
theorem DAt.putS {H : Heap} {d o : Nat} {D : Dv} {ver : Nat} {cap : Option Nat} (ok : D.Ok) (hdo : d ≠ o) (hd : H[d]? = some ⟨1, .var (D.cs (.view o ver 0 D.S.length 64 cap))⟩) (ho : H[o]? = some ⟨ver, .arr (D.S.flatten.map (V.int .u8))⟩) (i : Nat) {v : List Int} (hv : v.length = 64) :
    DAt (H.set o ⟨ver, .arr ((D.S.set i v).flatten.map (V.int .u8))⟩) d o (D.setS i v) :=
  ⟨ok.setS i hv, ⟨ver, cap, by rw [List.getElem?_set_ne (Ne.symm hdo), hd]; simp only [Dv.setS, List.length_set]; rfl, List.getElem?_set_self (lt_of_get ho)⟩, hdo⟩
theorem swap1_spec {N n : Nat} (hn : 1 ≤ n) {K : Heap} {b0 b1 b2 d o ver : Nat} {cap : Option Nat} {D : Dv} {i : Int} {v : List Int} (ok : D.Ok) (hv : v.length = 64) (i0 : 0 ≤ i) (i1 : i < (D.S.length : Int))
    (h0 : K[b0]? = some ⟨1, .var (v.map (V.int .u8))⟩) (h1 : K[b1]? = some ⟨1, .var [.ptr d 1 0]⟩) (h2 : K[b2]? = some ⟨1, .var [.int .i64 i]⟩) (hd : K[d]? = some ⟨1, .var (D.cs (.view o ver 0 D.S.length 64 cap))⟩) (ho : K[o]? = some ⟨ver, .arr (D.S.flatten.map (V.int .u8))⟩) :
    callA am N n 57 [.ptr b0 1 0, .ptr b1 1 0, .ptr b2 1 0] K = some (.tup [], K.set o ⟨ver, .arr ((D.S.set i.toNat v).flatten.map (V.int .u8))⟩) := by
  obtain ⟨n, rfl⟩ : ∃ m, n = m + 1 := ⟨n - 1, by omega⟩
  have hlt := lt_of_get hd
  have hlo := lt_of_get ho
  have q1 := fun X => @dv_len D X ok.e8
  have q0 : ∀ X, List.take 1 (D.cs X) = [X] := fun X => rfl
  have l64 : (v.map (V.int .u8)).length = 64 := by simp [hv]
  have t64 : List.take 64 (v.map (V.int .u8)) = v.map (V.int .u8) := List.take_of_length_le (by simp [hv])
  have o64 := ints_one .u8 v
  have fl : (D.S.flatten.map (V.int .u8)).length = D.S.length * 64 := by rw [List.length_map, flat_len ok.sec]
  have le : i.toNat * 64 + 64 ≤ D.S.length * 64 := by omega
  have fs := @flat_set D.S i.toNat v ok.sec hv (by omega)
  generalize D.S.flatten.map (V.int .u8) = F at *
  generalize (D.S.set i.toNat v).flatten.map (V.int .u8) = F' at *
  generalize v.map (V.int .u8) = vs at *
  generalize D.S.length = L at *
  refine call_keep_eq at57 rfl rfl (by decide) (sx_wp ?_)
  simp +contextual -implicitDefEqProofs (maxSteps := 10000000) only [sxb, plainD, stays, ↓selV_wt, ↓selV_wf, ↓impB_wt, ↓impB_wf, ↓selV_nor, ↓impB_nor, ↓selV_nt, ↓selV_nf, ↓impB_nt, ↓impB_nf, ↓selV_true, ↓selV_false, ↓selV_and, ↓impB_true, ↓impB_false, ↓impB_and, ↓prim_pick, ↓selV_nn, ↓impB_nn, doOp, get, ins, del, dels, Nat.reduceLT, Nat.reduceEqDiff, ↓reduceIte, reduceCtorEq, ne_eq, implies_true, prim, YLD, mkA, V.cells, Nat.reduceAdd, Nat.reduceSub, Nat.reduceMul, Nat.reduceLeDiff, loadA, cellsAt, nAg, packA, List.drop, List.take, List.head?, binA, unA, eqCells, eqCell, negB, fillA, storeA, Ob.with, indexedI, V.oneCell, intOf?, resA, resA1, packR, sealDepth, Int.reduceLT, Int.reduceLE, Int.reduceToNat, Int.reduceNeg, Int.reduceAdd, Int.reduceSub, Int.reduceMul, cond_true, cond_false, Int.reduceBNe, Int.reduceBEq, eq_self, deads, List.replicate, argsF, am57, isNil, List.append_nil, h0, h1, h2, hd, ho, hlt, hlo, q1, q0, l64, t64, o64, fl, le, fs, iaddrSA, i0, i1]
end Go.Am.T


set_option linter.unusedVariables false
set_option linter.unusedSimpArgs false
set_option maxRecDepth 10000
namespace Go.Am.T
attribute [local congr] selV_congr impB_congr
theorem eqCells_ints {k : IntKind} : ∀ {n : Nat} {A B : List Int}, A.length = n → B.length = n → eqCells (List.replicate n (.i k)) (A.map (V.int k)) (B.map (V.int k)) = some (decide (A = B))
  | 0, [], [], _, _ => rfl
  | n + 1, a :: A, b :: B, h1, h2 => by
    simp only [List.replicate, List.map_cons, eqCells, eqCell, ↓reduceIte, eqCells_ints (k := k) (n := n) (A := A) (B := B) (by simpa using h1) (by simpa using h2), Option.some.injEq]
    rw [Bool.eq_iff_iff]
    simp
def Dv.doS (D : Dv) (i : Nat) (v : List Int) : Dv := bif D.out then D.lose else D.tick.setS i v
theorem Dv.Ok.doS {D : Dv} (h : D.Ok) (i : Nat) {v : List Int} (hv : v.length = 64) : (D.doS i v).Ok := by
  unfold Dv.doS
  cases g : D.out with
  | true => exact h.lose
  | false => exact (h.tick g).setS (D := D.tick) i hv
def Dv.swapR (D : Dv) (i e s : Int) (was : List Int) : List V :=
  bif D.who i e (D.isSec s) == 0 then (bif decide (D.at s = was) then [.bool true, .int .i64 0] else [.bool false, .int .i64 0]) else [.bool false, .int .i64 (D.who i e (D.isSec s))]
def Dv.swap (D : Dv) (i e s : Int) (was new : List Int) : Dv :=
  bif (D.who i e (D.isSec s) == 0) && decide (D.at s = was) then D.doS s.toNat new else D
theorem doS_spec {N n : Nat} (hn : 1 ≤ n) {K : Heap} {d o ver : Nat} {cap : Option Nat} {D : Dv} {g : FuncId} {caps : List V} {i : Nat} {v : List Int} (ok : D.Ok) (hv : v.length = 64) (hdo : d ≠ o) (hd : K[d]? = some ⟨1, .var (D.cs (.view o ver 0 D.S.length 64 cap))⟩) (ho : K[o]? = some ⟨ver, .arr (D.S.flatten.map (V.int .u8))⟩) (hg : g ≠ 1000000007)
    (hc : D.out = false → ∃ u, callA am N (n - 1) g caps (K.set d ⟨1, .var (D.tick.cs (.view o ver 0 D.S.length 64 cap))⟩) = some (u, (K.set d ⟨1, .var (D.tick.cs (.view o ver 0 D.S.length 64 cap))⟩).set o ⟨ver, .arr ((D.S.set i v).flatten.map (V.int .u8))⟩)) :
    ∃ H', callA am N n 53 [.ptr d 1 0, .func g [] caps] K = some (.bool (!D.out), H') ∧ H'.length = K.length ∧ (∀ p, p ≠ d → p ≠ o → H'[p]? = K[p]?) ∧ DAt H' d o (D.doS i v) := by
  obtain ⟨n, rfl⟩ : ∃ m, n = m + 1 := ⟨n - 1, by omega⟩
  have hlt := lt_of_get hd
  cases go : D.out with
  | true =>
    refine ⟨_, does_no hd ok go _, List.length_set, fun p hp _ => List.getElem?_set_ne (Ne.symm hp), ?_⟩
    simp only [Dv.doS, go, cond_true]
    exact ⟨ok.lose, ⟨ver, cap, List.getElem?_set_self hlt, by rw [List.getElem?_set_ne hdo]; exact ho⟩, hdo⟩
  | false =>
    obtain ⟨u, q⟩ := hc go
    rw [Nat.add_sub_cancel] at q
    refine ⟨_, does_yes hd ok go hg q, by rw [List.length_set, List.length_set], fun p hp hpo => by rw [List.getElem?_set_ne (Ne.symm hpo), List.getElem?_set_ne (Ne.symm hp)], ?_⟩
    simp only [Dv.doS, go, cond_false]
    exact DAt.putS (D := D.tick) (cap := cap) (ok.tick go) hdo (List.getElem?_set_self hlt) (by rw [List.getElem?_set_ne hdo]; exact ho) i hv
theorem swap_spec {N n : Nat} (hn : 4 ≤ n) {H : Heap} {d o : Nat} {D : Dv} (h : DAt H d o D) (i e s : Int) {was new : List Int} (hw : was.length = 64) (hv : new.length = 64) :
    ∃ H', callA am N n 29 [.ptr d 1 0, .int .i64 i, .int .i64 e, .int .i64 s, secV was, secV new] H = some (.tup (D.swapR i e s was), H') ∧ H.length ≤ H'.length ∧ (∀ p, p < H.length → p ≠ d → p ≠ o → H'[p]? = H[p]?) ∧ DAt H' d o (D.swap i e s was new) := by
  obtain ⟨n, rfl⟩ : ∃ m, n = m + 1 := ⟨n - 1, by omega⟩
  obtain ⟨K, hK⟩ : ∃ K : Heap, K = H ++ [⟨1, .var [.ptr d 1 0]⟩, ⟨1, .var [.int .i64 s]⟩, ⟨1, .var (was.map (V.int .u8))⟩, ⟨1, .var (new.map (V.int .u8))⟩] := ⟨_, rfl⟩
  have hKl : K.length = H.length + 4 := by rw [hK]; simp
  have hKo : ∀ p, p < H.length → K[p]? = H[p]? := fun p hp => by rw [hK, List.getElem?_append_left hp]
  have D1 : DAt K d o D := by rw [hK]; exact h.app _
  have c32 := @size_spec N n (by omega) K _ _ D1.looks
  have es : (decide (s ≥ 0) && decide (s < (D.S.length : Int))) = D.isSec s := rfl
  have c52 := @who_spec N n (by omega) K _ _ D1.looks i e (D.isSec s)
  have ok := h.ok
  have hlt := h.lt
  have ow := ints_one .u8 was
  have on := ints_one .u8 new
  have lw : (was.map (V.int .u8)).length = 64 := by simp [hw]
  have ln : (new.map (V.int .u8)).length = 64 := by simp [hv]
  have tw : List.take 64 (was.map (V.int .u8)) = was.map (V.int .u8) := List.take_of_length_le (by simp [hw])
  have cw : (secV was).cells = was.map (V.int .u8) := rfl
  have cn : (secV new).cells = new.map (V.int .u8) := rfl
  by_cases h0 : D.who i e (D.isSec s) = 0
  · have hs := who_more h0
    rw [h0, hs] at c52
    have hs' := hs
    simp only [Dv.isSec, Bool.and_eq_true, decide_eq_true_eq] at hs'
    obtain ⟨s0, s1⟩ := hs'
    have gs0 : decide (s ≥ 0) = true := decide_eq_true s0
    have gs1 : decide (s < (D.S.length : Int)) = true := decide_eq_true s1
    obtain ⟨ver, cap, hd, ho⟩ := D1.ob
    have q1 := fun X => @dv_len D X ok.e8
    have q0 : ∀ X, List.take 1 (D.cs X) = [X] := fun X => rfl
    have fl : (D.S.flatten.map (V.int .u8)).length = D.S.length * 64 := by rw [List.length_map, flat_len ok.sec]
    have le : s.toNat * 64 + 64 ≤ D.S.length * 64 := by omega
    have fa : List.take 64 (List.drop (s.toNat * 64) (D.S.flatten.map (V.int .u8))) = (D.at s).map (V.int .u8) := @flat_at D.S s.toNat ok.sec (by omega)
    have la : (D.at s).length = 64 := (sec_at ok s0 s1 none).2
    have oa := ints_one .u8 (D.at s)
    have eq := @eqCells_ints .u8 64 _ _ la hw
    simp only [List.replicate] at eq
    by_cases hsame : D.at s = was
    · have g : decide (D.at s = was) = true := decide_eq_true hsame
      rw [g] at eq
      have e1 : D.swapR i e s was = [.bool true, .int .i64 0] := by simp only [Dv.swapR, h0, g]; rfl
      have e2 : D.swap i e s was new = D.doS s.toNat new := by simp only [Dv.swap, h0, g]; rfl
      have k0 : K[H.length]? = some ⟨1, .var [.ptr d 1 0]⟩ := by rw [hK, app_get0]; rfl
      have k1 : K[H.length + 1]? = some ⟨1, .var [.int .i64 s]⟩ := by rw [hK, app_get]; rfl
      have k3 : K[H.length + 3]? = some ⟨1, .var (new.map (V.int .u8))⟩ := by rw [hK, app_get]; rfl
      have hdK := lt_of_get hd
      obtain ⟨H', c53, l1, l2, l3⟩ := @doS_spec N n (by omega) K d o ver cap D 57 [.ptr (H.length + 3) 1 0, .ptr H.length 1 0, .ptr (H.length + 1) 1 0] s.toNat new ok hv h.apart hd ho (by decide) (fun go => by
        refine ⟨.tup [], ?_⟩
        exact @swap1_spec N (n - 1) (by omega) (K.set d ⟨1, .var (D.tick.cs (.view o ver 0 D.S.length 64 cap))⟩) (H.length + 3) H.length (H.length + 1) d o ver cap D.tick s new (ok.tick go) hv s0 s1
          (by rw [List.getElem?_set_ne (by omega)]; exact k3) (by rw [List.getElem?_set_ne (by omega)]; exact k0) (by rw [List.getElem?_set_ne (by omega)]; exact k1) (List.getElem?_set_self hdK) (by rw [List.getElem?_set_ne h.apart]; exact ho))
      refine ⟨H', ?_, by omega, fun p hp hpd hpo => by rw [l2 p hpd hpo, hKo p hp], by rw [e2]; exact l3⟩
      rw [e1]
      clear l1 l2 l3 D1
      generalize (D.at s).map (V.int .u8) = as at *
      generalize hX : V.view o ver 0 D.S.length 64 cap = X at *
      generalize D.S.flatten.map (V.int .u8) = F at *
      subst hK
      subst hX
      unfold secV at *
      refine call_keep_eq at29 rfl rfl (by decide) (sx_wp ?_)
      simp +contextual -implicitDefEqProofs (maxSteps := 10000000) only [sxb, plainD, stays, ↓selV_wt, ↓selV_wf, ↓impB_wt, ↓impB_wf, ↓selV_nor, ↓impB_nor, ↓selV_nt, ↓selV_nf, ↓impB_nt, ↓impB_nf, ↓selV_true, ↓selV_false, ↓selV_and, ↓impB_true, ↓impB_false, ↓impB_and, ↓prim_pick, ↓selV_nn, ↓impB_nn, doOp, get, ins, del, dels, Nat.reduceLT, Nat.reduceEqDiff, ↓reduceIte, reduceCtorEq, ne_eq, implies_true, prim, YLD, mkA, V.cells, Nat.reduceAdd, Nat.reduceSub, Nat.reduceMul, Nat.reduceLeDiff, loadA, cellsAt, nAg, packA, List.drop, List.take, List.head?, binA, unA, eqCells, eqCell, negB, fillA, storeA, Ob.with, indexedI, V.oneCell, intOf?, resA, resA1, packR, sealDepth, Int.reduceLT, Int.reduceLE, Int.reduceToNat, Int.reduceNeg, Int.reduceAdd, Int.reduceSub, Int.reduceMul, cond_true, cond_false, Int.reduceBNe, Int.reduceBEq, eq_self, deads, List.replicate, argsF, am29, isNil, app_get0, app_get, app_set0, app_set, c32, c52, pm32, gs0, gs1, cw, cn, ow, on, lw, ln, tw, hd, ho, q1, q0, iaddrSA, s0, s1, fl, le, fa, oa, eq, c53]
    · have g : decide (D.at s = was) = false := decide_eq_false hsame
      rw [g] at eq
      have e1 : D.swapR i e s was = [.bool false, .int .i64 0] := by simp only [Dv.swapR, h0, g]; rfl
      have e2 : D.swap i e s was new = D := by simp only [Dv.swap, h0, g]; rfl
      refine ⟨K, ?_, by omega, fun p hp _ _ => hKo p hp, by rw [e2]; exact D1⟩
      rw [e1]
      clear D1
      generalize (D.at s).map (V.int .u8) = as at *
      generalize D.S.flatten.map (V.int .u8) = F at *
      subst hK
      unfold secV at *
      refine call_keep_eq at29 rfl rfl (by decide) (sx_wp ?_)
      simp +contextual -implicitDefEqProofs (maxSteps := 10000000) only [sxb, plainD, stays, ↓selV_wt, ↓selV_wf, ↓impB_wt, ↓impB_wf, ↓selV_nor, ↓impB_nor, ↓selV_nt, ↓selV_nf, ↓impB_nt, ↓impB_nf, ↓selV_true, ↓selV_false, ↓selV_and, ↓impB_true, ↓impB_false, ↓impB_and, ↓prim_pick, ↓selV_nn, ↓impB_nn, doOp, get, ins, del, dels, Nat.reduceLT, Nat.reduceEqDiff, ↓reduceIte, reduceCtorEq, ne_eq, implies_true, prim, YLD, mkA, V.cells, Nat.reduceAdd, Nat.reduceSub, Nat.reduceMul, Nat.reduceLeDiff, loadA, cellsAt, nAg, packA, List.drop, List.take, List.head?, binA, unA, eqCells, eqCell, negB, fillA, storeA, Ob.with, indexedI, V.oneCell, intOf?, resA, resA1, packR, sealDepth, Int.reduceLT, Int.reduceLE, Int.reduceToNat, Int.reduceNeg, Int.reduceAdd, Int.reduceSub, Int.reduceMul, cond_true, cond_false, Int.reduceBNe, Int.reduceBEq, eq_self, deads, List.replicate, argsF, am29, isNil, app_get0, app_get, app_set0, app_set, c32, c52, pm32, gs0, gs1, cw, cn, ow, on, lw, ln, tw, hd, ho, q1, q0, iaddrSA, s0, s1, fl, le, fa, oa, eq]
  · have hne : (D.who i e (D.isSec s) != 0) = true := by simpa using h0
    have hne' : (D.who i e (D.isSec s) == 0) = false := by simpa using h0
    have e1 : D.swapR i e s was = [.bool false, .int .i64 (D.who i e (D.isSec s))] := by simp [Dv.swapR, hne']
    have e2 : D.swap i e s was new = D := by simp [Dv.swap, hne']
    refine ⟨K, ?_, by omega, fun p hp _ _ => hKo p hp, by rw [e2]; exact D1⟩
    rw [e1]
    clear e1 e2
    generalize D.who i e (D.isSec s) = R at *
    subst hK
    unfold secV at *
    refine call_keep_eq at29 rfl rfl (by decide) (sx_wp ?_)
    simp +contextual -implicitDefEqProofs (maxSteps := 10000000) only [sxb, plainD, stays, ↓selV_wt, ↓selV_wf, ↓impB_wt, ↓impB_wf, ↓selV_nor, ↓impB_nor, ↓selV_nt, ↓selV_nf, ↓impB_nt, ↓impB_nf, ↓selV_true, ↓selV_false, ↓selV_and, ↓impB_true, ↓impB_false, ↓impB_and, ↓prim_pick, ↓selV_nn, ↓impB_nn, doOp, get, ins, del, dels, Nat.reduceLT, Nat.reduceEqDiff, ↓reduceIte, reduceCtorEq, ne_eq, implies_true, prim, YLD, mkA, V.cells, Nat.reduceAdd, Nat.reduceSub, Nat.reduceMul, Nat.reduceLeDiff, loadA, cellsAt, nAg, packA, List.drop, List.take, List.head?, binA, unA, eqCells, eqCell, negB, fillA, storeA, Ob.with, indexedI, V.oneCell, intOf?, resA, resA1, packR, sealDepth, Int.reduceLT, Int.reduceLE, Int.reduceToNat, Int.reduceNeg, Int.reduceAdd, Int.reduceSub, Int.reduceMul, cond_true, cond_false, Int.reduceBNe, Int.reduceBEq, eq_self, deads, List.replicate, argsF, am29, isNil, app_get0, app_get, app_set0, app_set, c32, c52, pm32, es, cw, cn, ow, on, lw, ln, hne]
end Go.Am.T


set_option linter.unusedVariables false
set_option linter.unusedSimpArgs false
set_option maxRecDepth 10000
namespace Go.Am.T
attribute [local congr] selV_congr impB_congr
theorem RAt.app {H : Heap} {r s e : Nat} {D : Dv} (h : RAt H r s e D) (l : Heap) : RAt (H ++ l) r s e D :=
  h.keep fun p hp => List.getElem?_append_left (by rcases hp with rfl | rfl | rfl <;> simp [h.lt])
theorem RAt.putS {H : Heap} {r s e : Nat} {D : Dv} (h : RAt H r s e D) (i : Nat) {v : List Int} (hv : v.length = 64) (ho : D.out = false) {ver ver' : Nat} {cap cap' : Option Nat}
    (hr : H[r]? = some ⟨1, .var (D.rcs (.view s ver 0 D.S.length 64 cap) (.view e ver' 0 D.n 1 cap'))⟩) (hs : H[s]? = some ⟨ver, .arr (D.S.flatten.map (V.int .u8))⟩) (he : H[e]? = some ⟨ver', .arr (D.eps.map (V.int .i64))⟩) :
    RAt ((H.set r ⟨1, .var (D.tick.rcs (.view s ver 0 D.S.length 64 cap) (.view e ver' 0 D.n 1 cap'))⟩).set s ⟨ver, .arr ((D.S.set i v).flatten.map (V.int .u8))⟩) r s e (D.tick.setS i v) := by
  obtain ⟨q1, q2, q3⟩ := h.lt
  refine ⟨(h.ok.tick ho).setS (D := D.tick) i hv, ⟨ver, cap, ver', cap', ?_, ?_, ?_⟩, h.rs, h.re, h.se⟩
  · rw [List.getElem?_set_ne (Ne.symm h.rs), List.getElem?_set_self q1]
    have e1 : (D.tick.setS i v).S.length = D.S.length := List.length_set
    rw [e1]; rfl
  · rw [List.getElem?_set_self (by rw [List.length_set]; exact q2)]; rfl
  · rw [List.getElem?_set_ne h.se, List.getElem?_set_ne h.re]; exact he
theorem rswap_spec {N n : Nat} (hn : 3 ≤ n) {H : Heap} {r s e : Nat} {D : Dv} (h : RAt H r s e D) (i x c : Int) {was new : List Int} (hw : was.length = 64) (hv : new.length = 64) :
    ∃ H', callA am N n 43 [.ptr r 1 0, .int .i64 i, .int .i64 x, .int .i64 c, secV was, secV new] H = some (.tup (D.swapR i x c was), H') ∧ H.length ≤ H'.length ∧ (∀ p, p < H.length → p ≠ r → p ≠ s → H'[p]? = H[p]?) ∧ RAt H' r s e (D.swap i x c was new) := by
  obtain ⟨n, rfl⟩ : ∃ m, n = m + 1 := ⟨n - 1, by omega⟩
  obtain ⟨K, hK⟩ : ∃ K : Heap, K = H ++ [⟨1, .var (was.map (V.int .u8))⟩, ⟨1, .var (new.map (V.int .u8))⟩] := ⟨_, rfl⟩
  have hKl : K.length = H.length + 2 := by rw [hK]; simp
  have hKo : ∀ p, p < H.length → K[p]? = H[p]? := fun p hp => by rw [hK, List.getElem?_append_left hp]
  have D1 : RAt K r s e D := by rw [hK]; exact h.app _
  have c60 := @rwho_spec N n (by omega) K _ _ D1.looks i x
  have ok := h.ok
  obtain ⟨l1, l2, l3⟩ := h.lt
  obtain ⟨ver, cap, ver', cap', hr, hs, he⟩ := D1.ob
  obtain ⟨q1, q2, q3⟩ := D1.lt
  have e2 : ∀ D' : Dv, D'.rcs (.view s ver 0 D.S.length 64 cap) (.view e ver' 0 D.n 1 cap') = [.view s ver 0 D.S.length 64 cap, .view e ver' 0 D.n 1 cap', .int .i64 D'.rl, .bool D'.lost, .int .i64 D'.done] := fun D' => rfl
  have hr' := hr
  rw [e2] at hr'
  have ow := ints_one .u8 was
  have on := ints_one .u8 new
  have lw : (was.map (V.int .u8)).length = 64 := by simp [hw]
  have ln : (new.map (V.int .u8)).length = 64 := by simp [hv]
  have tw : List.take 64 (was.map (V.int .u8)) = was.map (V.int .u8) := List.take_of_length_le (by simp [hw])
  have tn : List.take 64 (new.map (V.int .u8)) = new.map (V.int .u8) := List.take_of_length_le (by simp [hv])
  have bad : ∀ R : Int, R ≠ 0 → D.who i x (D.isSec c) = R → D.swapR i x c was = [.bool false, .int .i64 R] ∧ D.swap i x c was new = D := fun R hR hE => by
    have h1 : (R == 0) = false := by simpa using hR
    exact ⟨by simp only [Dv.swapR, hE, h1, cond_false], by simp only [Dv.swap, hE, h1, Bool.false_and, cond_false]⟩
  by_cases h0 : D.rwho i x = 0
  · obtain ⟨gi, x0, x1⟩ := rwho_zero h0
    obtain ⟨i0, i1⟩ := isNode_true gi
    rw [h0] at c60
    cases hm : D.isSec c with
    | false =>
      obtain ⟨b1, b2⟩ := bad 2 (by decide) (by rw [hm, who_no])
      rw [b1, b2]
      refine ⟨K, ?_, by omega, fun p hp _ _ => hKo p hp, D1⟩
      have gm : (decide (c < 0) || decide (c ≥ (D.S.length : Int))) = true := by
        simp only [Dv.isSec, Bool.and_eq_false_iff, decide_eq_false_iff_not] at hm
        simp only [Bool.or_eq_true, decide_eq_true_eq]
        omega
      clear D1
      subst hK
      unfold secV
      refine call_keep_eq at43 rfl rfl (by decide) (sx_wp ?_)
      simp +contextual -implicitDefEqProofs (maxSteps := 10000000) only [sxb, plainD, stays, ↓selV_wt, ↓selV_wf, ↓impB_wt, ↓impB_wf, ↓selV_nor, ↓impB_nor, ↓selV_nt, ↓selV_nf, ↓impB_nt, ↓impB_nf, ↓selV_true, ↓selV_false, ↓selV_and, ↓impB_true, ↓impB_false, ↓impB_and, ↓prim_pick, ↓selV_nn, ↓impB_nn, doOp, get, ins, del, dels, Nat.reduceLT, Nat.reduceEqDiff, ↓reduceIte, reduceCtorEq, ne_eq, implies_true, prim, YLD, mkA, V.cells, Nat.reduceAdd, Nat.reduceSub, Nat.reduceMul, Nat.reduceLeDiff, loadA, cellsAt, nAg, packA, List.drop, List.take, List.head?, binA, unA, eqCells, eqCell, negB, fillA, storeA, Ob.with, indexedI, V.oneCell, intOf?, resA, resA1, packR, sealDepth, Int.reduceLT, Int.reduceLE, Int.reduceToNat, Int.reduceNeg, Int.reduceAdd, Int.reduceSub, Int.reduceMul, cond_true, cond_false, Int.reduceBNe, Int.reduceBEq, eq_self, deads, List.replicate, argsF, am43, isNil, app_get0, app_get, app_set0, app_set, c60, hr', lenA, gm, ow, on, lw, ln]
    | true =>
      have gm : (decide (c < 0) || decide (c ≥ (D.S.length : Int))) = false := by
        simp only [Dv.isSec, Bool.and_eq_true, decide_eq_true_eq] at hm
        simp only [Bool.or_eq_false_iff, decide_eq_false_iff_not]
        omega
      have hm' := hm
      simp only [Dv.isSec, Bool.and_eq_true, decide_eq_true_eq] at hm'
      obtain ⟨s0, s1⟩ := hm'
      have le := (List.length_map (f := V.int .i64) (as := D.eps)).trans (eps_len ok)
      have ti : List.take 1 (List.drop i.toNat (D.eps.map (V.int .i64))) = [.int .i64 (D.ep i)] := by
        have hlt : i.toNat < D.eps.length := by rw [eps_len ok]; omega
        have e3 := eps_at ok (i := i.toNat) (by omega)
        rw [← List.map_drop, List.drop_eq_getElem_cons hlt]
        rw [List.getElem?_eq_getElem hlt] at e3
        rw [Option.some.inj e3]; rfl
      have n1 : i.toNat + 1 ≤ D.n := by omega
      cases gx : decide (x < D.ep i) with
      | true =>
        obtain ⟨b1, b2⟩ := bad 8 (by decide) (by rw [hm, who_yes h0, gx]; rfl)
        rw [b1, b2]
        refine ⟨K, ?_, by omega, fun p hp _ _ => hKo p hp, D1⟩
        clear D1
        subst hK
        unfold secV
        refine call_keep_eq at43 rfl rfl (by decide) (sx_wp ?_)
        simp +contextual -implicitDefEqProofs (maxSteps := 10000000) only [sxb, plainD, stays, ↓selV_wt, ↓selV_wf, ↓impB_wt, ↓impB_wf, ↓selV_nor, ↓impB_nor, ↓selV_nt, ↓selV_nf, ↓impB_nt, ↓impB_nf, ↓selV_true, ↓selV_false, ↓selV_and, ↓impB_true, ↓impB_false, ↓impB_and, ↓prim_pick, ↓selV_nn, ↓impB_nn, doOp, get, ins, del, dels, Nat.reduceLT, Nat.reduceEqDiff, ↓reduceIte, reduceCtorEq, ne_eq, implies_true, prim, YLD, mkA, V.cells, Nat.reduceAdd, Nat.reduceSub, Nat.reduceMul, Nat.reduceLeDiff, loadA, cellsAt, nAg, packA, List.drop, List.take, List.head?, binA, unA, eqCells, eqCell, negB, fillA, storeA, Ob.with, indexedI, V.oneCell, intOf?, resA, resA1, packR, sealDepth, Int.reduceLT, Int.reduceLE, Int.reduceToNat, Int.reduceNeg, Int.reduceAdd, Int.reduceSub, Int.reduceMul, cond_true, cond_false, Int.reduceBNe, Int.reduceBEq, eq_self, deads, List.replicate, argsF, am43, isNil, app_get0, app_get, app_set0, app_set, c60, hr', lenA, gm, ow, on, lw, ln, he, iaddrSA, i0, i1, n1, le, ti, gx]
      | false =>
        have e0 : D.who i x (D.isSec c) = 0 := by rw [hm, who_yes h0, gx]; rfl
        have fl : (D.S.flatten.map (V.int .u8)).length = D.S.length * 64 := by rw [List.length_map, flat_len ok.sec]
        have lc : c.toNat * 64 + 64 ≤ D.S.length * 64 := by omega
        have fa : List.take 64 (List.drop (c.toNat * 64) (D.S.flatten.map (V.int .u8))) = (D.at c).map (V.int .u8) := @flat_at D.S c.toNat ok.sec (by omega)
        have la : (D.at c).length = 64 := (sec_at ok s0 s1 none).2
        have oa := ints_one .u8 (D.at c)
        have eq := @eqCells_ints .u8 64 _ _ la hw
        simp only [List.replicate] at eq
        by_cases hsame : D.at c = was
        · have g : decide (D.at c = was) = true := decide_eq_true hsame
          rw [g] at eq
          have b1 : D.swapR i x c was = [.bool true, .int .i64 0] := by simp only [Dv.swapR, e0, g]; rfl
          have b2 : D.swap i x c was new = D.doS c.toNat new := by simp only [Dv.swap, e0, g]; rfl
          rw [b1, b2]
          obtain ⟨n, rfl⟩ : ∃ m, n = m + 1 := ⟨n - 1, by omega⟩
          cases go : D.out with
          | true =>
            have c61 := @rdoes_no N n K r D _ _ hr ok go
            have hres := D1.putLose hr hs he
            have ed : D.doS c.toNat new = D.lose := by simp only [Dv.doS, go, cond_true]
            rw [ed]
            refine ⟨K.set r ⟨1, .var (D.lose.rcs (.view s ver 0 D.S.length 64 cap) (.view e ver' 0 D.n 1 cap'))⟩, ?_, by rw [List.length_set]; omega, fun p hp hpr _ => by rw [List.getElem?_set_ne (Ne.symm hpr), hKo p hp], hres⟩
            clear hres D1
            generalize D.lose.rcs (.view s ver 0 D.S.length 64 cap) (.view e ver' 0 D.n 1 cap') = cs' at *
            generalize (D.at c).map (V.int .u8) = as at *
            generalize D.S.flatten.map (V.int .u8) = F at *
            subst hK
            unfold secV
            refine call_keep_eq at43 rfl rfl (by decide) (sx_wp ?_)
            simp +contextual -implicitDefEqProofs (maxSteps := 10000000) only [sxb, plainD, stays, ↓selV_wt, ↓selV_wf, ↓impB_wt, ↓impB_wf, ↓selV_nor, ↓impB_nor, ↓selV_nt, ↓selV_nf, ↓impB_nt, ↓impB_nf, ↓selV_true, ↓selV_false, ↓selV_and, ↓impB_true, ↓impB_false, ↓impB_and, ↓prim_pick, ↓selV_nn, ↓impB_nn, doOp, get, ins, del, dels, Nat.reduceLT, Nat.reduceEqDiff, ↓reduceIte, reduceCtorEq, ne_eq, implies_true, prim, YLD, mkA, V.cells, Nat.reduceAdd, Nat.reduceSub, Nat.reduceMul, Nat.reduceLeDiff, loadA, cellsAt, nAg, packA, List.drop, List.take, List.head?, binA, unA, eqCells, eqCell, negB, fillA, storeA, Ob.with, indexedI, V.oneCell, intOf?, resA, resA1, packR, sealDepth, Int.reduceLT, Int.reduceLE, Int.reduceToNat, Int.reduceNeg, Int.reduceAdd, Int.reduceSub, Int.reduceMul, cond_true, cond_false, Int.reduceBNe, Int.reduceBEq, eq_self, deads, List.replicate, argsF, am43, isNil, app_get0, app_get, app_set0, app_set, c60, hr', lenA, gm, ow, on, lw, ln, he, iaddrSA, i0, i1, n1, le, ti, gx, hs, s0, s1, fl, lc, fa, oa, tw, eq, c61]
          | false =>
            have c61 := @rdoes_yes N n K r D _ _ hr ok go
            have hres := D1.putS c.toNat hv go hr hs he
            have ed : D.doS c.toNat new = D.tick.setS c.toNat new := by simp only [Dv.doS, go, cond_false]
            rw [ed]
            refine ⟨(K.set r ⟨1, .var (D.tick.rcs (.view s ver 0 D.S.length 64 cap) (.view e ver' 0 D.n 1 cap'))⟩).set s ⟨ver, .arr ((D.S.set c.toNat new).flatten.map (V.int .u8))⟩, ?_, by rw [List.length_set, List.length_set]; omega, fun p hp hpr hps => by rw [List.getElem?_set_ne (Ne.symm hps), List.getElem?_set_ne (Ne.symm hpr), hKo p hp], hres⟩
            have gr : ∀ y : Ob, (K.set r y)[r]? = some y := fun y => List.getElem?_set_self q1
            have gs : ∀ y : Ob, (K.set r y)[s]? = some ⟨ver, .arr (D.S.flatten.map (V.int .u8))⟩ := fun y => by rw [List.getElem?_set_ne h.rs]; exact hs
            have g1 : ∀ y : Ob, (K.set r y)[H.length + 1]? = some ⟨1, .var (new.map (V.int .u8))⟩ := fun y => by rw [List.getElem?_set_ne (by omega), hK, app_get]; rfl
            have fs := @flat_set D.S c.toNat new ok.sec hv (by omega)
            clear hres D1
            rw [e2] at c61 ⊢
            generalize (D.at c).map (V.int .u8) = as at *
            generalize (D.S.set c.toNat new).flatten.map (V.int .u8) = F' at *
            generalize D.S.flatten.map (V.int .u8) = F at *
            subst hK
            unfold secV
            refine call_keep_eq at43 rfl rfl (by decide) (sx_wp ?_)
            simp +contextual -implicitDefEqProofs (maxSteps := 10000000) only [sxb, plainD, stays, ↓selV_wt, ↓selV_wf, ↓impB_wt, ↓impB_wf, ↓selV_nor, ↓impB_nor, ↓selV_nt, ↓selV_nf, ↓impB_nt, ↓impB_nf, ↓selV_true, ↓selV_false, ↓selV_and, ↓impB_true, ↓impB_false, ↓impB_and, ↓prim_pick, ↓selV_nn, ↓impB_nn, doOp, get, ins, del, dels, Nat.reduceLT, Nat.reduceEqDiff, ↓reduceIte, reduceCtorEq, ne_eq, implies_true, prim, YLD, mkA, V.cells, Nat.reduceAdd, Nat.reduceSub, Nat.reduceMul, Nat.reduceLeDiff, loadA, cellsAt, nAg, packA, List.drop, List.take, List.head?, binA, unA, eqCells, eqCell, negB, fillA, storeA, Ob.with, indexedI, V.oneCell, intOf?, resA, resA1, packR, sealDepth, Int.reduceLT, Int.reduceLE, Int.reduceToNat, Int.reduceNeg, Int.reduceAdd, Int.reduceSub, Int.reduceMul, cond_true, cond_false, Int.reduceBNe, Int.reduceBEq, eq_self, deads, List.replicate, argsF, am43, isNil, app_get0, app_get, app_set0, app_set, c60, hr', lenA, gm, ow, on, lw, ln, he, iaddrSA, i0, i1, n1, le, ti, gx, hs, s0, s1, fl, lc, fa, oa, tw, tn, eq, c61, gr, gs, g1, fs, q2]
        · have g : decide (D.at c = was) = false := decide_eq_false hsame
          rw [g] at eq
          have b1 : D.swapR i x c was = [.bool false, .int .i64 0] := by simp only [Dv.swapR, e0, g]; rfl
          have b2 : D.swap i x c was new = D := by simp only [Dv.swap, e0, g]; rfl
          rw [b1, b2]
          refine ⟨K, ?_, by omega, fun p hp _ _ => hKo p hp, D1⟩
          clear D1
          generalize (D.at c).map (V.int .u8) = as at *
          generalize D.S.flatten.map (V.int .u8) = F at *
          subst hK
          unfold secV
          refine call_keep_eq at43 rfl rfl (by decide) (sx_wp ?_)
          simp +contextual -implicitDefEqProofs (maxSteps := 10000000) only [sxb, plainD, stays, ↓selV_wt, ↓selV_wf, ↓impB_wt, ↓impB_wf, ↓selV_nor, ↓impB_nor, ↓selV_nt, ↓selV_nf, ↓impB_nt, ↓impB_nf, ↓selV_true, ↓selV_false, ↓selV_and, ↓impB_true, ↓impB_false, ↓impB_and, ↓prim_pick, ↓selV_nn, ↓impB_nn, doOp, get, ins, del, dels, Nat.reduceLT, Nat.reduceEqDiff, ↓reduceIte, reduceCtorEq, ne_eq, implies_true, prim, YLD, mkA, V.cells, Nat.reduceAdd, Nat.reduceSub, Nat.reduceMul, Nat.reduceLeDiff, loadA, cellsAt, nAg, packA, List.drop, List.take, List.head?, binA, unA, eqCells, eqCell, negB, fillA, storeA, Ob.with, indexedI, V.oneCell, intOf?, resA, resA1, packR, sealDepth, Int.reduceLT, Int.reduceLE, Int.reduceToNat, Int.reduceNeg, Int.reduceAdd, Int.reduceSub, Int.reduceMul, cond_true, cond_false, Int.reduceBNe, Int.reduceBEq, eq_self, deads, List.replicate, argsF, am43, isNil, app_get0, app_get, app_set0, app_set, c60, hr', lenA, gm, ow, on, lw, ln, he, iaddrSA, i0, i1, n1, le, ti, gx, hs, s0, s1, fl, lc, fa, oa, tw, eq]
  · have hne : (D.rwho i x != 0) = true := by simpa using h0
    obtain ⟨b1, b2⟩ := bad 2 (by decide) (rwho_bad h0)
    rw [b1, b2]
    refine ⟨K, ?_, by omega, fun p hp _ _ => hKo p hp, D1⟩
    clear D1
    subst hK
    unfold secV
    refine call_keep_eq at43 rfl rfl (by decide) (sx_wp ?_)
    simp +contextual -implicitDefEqProofs (maxSteps := 10000000) only [sxb, plainD, stays, ↓selV_wt, ↓selV_wf, ↓impB_wt, ↓impB_wf, ↓selV_nor, ↓impB_nor, ↓selV_nt, ↓selV_nf, ↓impB_nt, ↓impB_nf, ↓selV_true, ↓selV_false, ↓selV_and, ↓impB_true, ↓impB_false, ↓impB_and, ↓prim_pick, ↓selV_nn, ↓impB_nn, doOp, get, ins, del, dels, Nat.reduceLT, Nat.reduceEqDiff, ↓reduceIte, reduceCtorEq, ne_eq, implies_true, prim, YLD, mkA, V.cells, Nat.reduceAdd, Nat.reduceSub, Nat.reduceMul, Nat.reduceLeDiff, loadA, cellsAt, nAg, packA, List.drop, List.take, List.head?, binA, unA, eqCells, eqCell, negB, fillA, storeA, Ob.with, indexedI, V.oneCell, intOf?, resA, resA1, packR, sealDepth, Int.reduceLT, Int.reduceLE, Int.reduceToNat, Int.reduceNeg, Int.reduceAdd, Int.reduceSub, Int.reduceMul, cond_true, cond_false, Int.reduceBNe, Int.reduceBEq, eq_self, deads, List.replicate, argsF, am43, isNil, app_get0, app_get, app_set0, app_set, c60, hne, ow, on, lw, ln]
end Go.Am.T


set_option linter.unusedVariables false
set_option linter.unusedSimpArgs false
set_option maxRecDepth 10000
namespace Go.Am.T
attribute [local congr] selV_congr impB_congr
def newOk (s k : Int) : Bool := !(decide (s < 1) || (decide (s > 4096) || (decide (k < 1) || decide (k > 8))))
def newD (s k : Nat) : Dv := ⟨List.replicate s zeroS, List.replicate 8 0, k, false, 0, false, 0⟩
theorem newOk_true {s k : Int} (h : newOk s k = true) : 1 ≤ s ∧ s ≤ 4096 ∧ 1 ≤ k ∧ k ≤ 8 := by
  simp only [newOk, Bool.not_eq_true', Bool.or_eq_false_iff, decide_eq_false_iff_not] at h
  omega
theorem newD_ok {s k : Nat} (h1 : 1 ≤ s) (h2 : s ≤ 4096) (h3 : 1 ≤ k) (h4 : k ≤ 8) : (newD s k).Ok := by
  refine ⟨rfl, h3, h4, by simpa [newD] using h1, by simpa [newD] using h2, fun t ht => ?_, fun h => (by cases h), (by decide : (0 : Int) ≤ _), fun i hi => ?_, fun e he => ?_⟩
  · rw [List.eq_of_mem_replicate ht]; rfl
  · show (List.replicate 8 (0 : Int)).getD i 0 = 0
    rw [List.getD_eq_getElem?_getD, List.getElem?_replicate]
    split <;> rfl
  · rw [List.eq_of_mem_replicate he]
    exact ⟨Int.le_refl 0, by decide⟩
theorem zeros_flat (s : Nat) : (List.replicate s (List.replicate 64 (V.int .u8 0))).flatten = ((List.replicate s zeroS).flatten).map (V.int .u8) := by
  rw [List.map_flatten, List.map_replicate]
  rfl
theorem newD_flat (s k : Nat) : (newD s k).S.flatten = List.replicate (s * 64) 0 := List.flatten_replicate_replicate
theorem newD_eps {s k : Nat} (h : k ≤ 8) : (newD s k).eps = List.replicate k 0 := by
  have : min k 8 = k := by omega
  simp only [Dv.eps, newD, List.take_replicate, this]
theorem new_spec {N n : Nat} (hn : 1 ≤ n) (s k : Int) (H : Heap) :
    ∃ H', callA am N n 15 [.int .i64 s, .int .i64 k] H = some (.tup (bif newOk s k then [.ptr (H.length + 1) 1 0, .int .i64 0] else [.nilp, .int .i64 2]), H') ∧ H'.length = H.length + 2 ∧ (∀ p, p < H.length → H'[p]? = H[p]?) ∧
      (newOk s k = true → DAt H' (H.length + 1) H.length (newD s.toNat k.toNat) ∧ H' = H ++ [⟨1, .arr ((newD s.toNat k.toNat).S.flatten.map (V.int .u8))⟩, ⟨1, .var ((newD s.toNat k.toNat).cs (.view H.length 1 0 s.toNat 64 (some s.toNat)))⟩]) := by
  obtain ⟨n, rfl⟩ : ∃ m, n = m + 1 := ⟨n - 1, by omega⟩
  cases g : newOk s k with
  | false =>
    have g' : (decide (s < 1) || (decide (s > 4096) || (decide (k < 1) || decide (k > 8)))) = true := (Bool.not_eq_false' _).mp g
    refine ⟨H ++ [⟨0, .dead⟩, ⟨0, .dead⟩], ?_, by simp, fun p hp => List.getElem?_append_left hp, fun h => by cases h⟩
    refine call_keep_eq at15 rfl rfl (by decide) (sx_wp ?_)
    simp +contextual -implicitDefEqProofs (maxSteps := 10000000) only [sxb, plainD, stays, ↓selV_wt, ↓selV_wf, ↓impB_wt, ↓impB_wf, ↓selV_nor, ↓impB_nor, ↓selV_nt, ↓selV_nf, ↓impB_nt, ↓impB_nf, ↓selV_true, ↓selV_false, ↓selV_and, ↓impB_true, ↓impB_false, ↓impB_and, ↓prim_pick, ↓selV_nn, ↓impB_nn, doOp, get, ins, del, dels, Nat.reduceLT, Nat.reduceEqDiff, ↓reduceIte, reduceCtorEq, ne_eq, implies_true, prim, YLD, mkA, V.cells, Nat.reduceAdd, Nat.reduceSub, Nat.reduceMul, Nat.reduceLeDiff, loadA, cellsAt, nAg, packA, List.drop, List.take, List.head?, binA, unA, eqCells, eqCell, negB, fillA, storeA, Ob.with, indexedI, V.oneCell, intOf?, resA, resA1, packR, sealDepth, Int.reduceLT, Int.reduceLE, Int.reduceToNat, Int.reduceNeg, Int.reduceAdd, Int.reduceSub, Int.reduceMul, cond_true, cond_false, Int.reduceBNe, Int.reduceBEq, eq_self, deads, List.replicate, argsF, am15, isNil, g']
  | true =>
    obtain ⟨h1, h2, h3, h4⟩ := newOk_true g
    have g' : (decide (s < 1) || (decide (s > 4096) || (decide (k < 1) || decide (k > 8)))) = false := (Bool.not_eq_true' _).mp g
    have s0 : 0 ≤ s := by omega
    have m1 : s.toNat * 64 ≤ maxBytes := by unfold maxBytes; omega
    have m2 : s.toNat ≤ maxBytes := by unfold maxBytes; omega
    have ek : ((k.toNat : Nat) : Int) = k := by omega
    have ok := @newD_ok s.toNat k.toNat (by omega) (by omega) (by omega) (by omega)
    have eS : (newD s.toNat k.toNat).S.length = s.toNat := by simp [newD]
    refine ⟨H ++ [⟨1, .arr ((newD s.toNat k.toNat).S.flatten.map (V.int .u8))⟩, ⟨1, .var ((newD s.toNat k.toNat).cs (.view H.length 1 0 s.toNat 64 (some s.toNat)))⟩], ?_, by simp, fun p hp => List.getElem?_append_left hp, fun _ => ?_⟩
    · have e : ∀ X, (newD s.toNat k.toNat).cs X = [X, V.int .i64 0, V.int .i64 0, V.int .i64 0, V.int .i64 0, V.int .i64 0, V.int .i64 0, V.int .i64 0, V.int .i64 0, .int .i64 k, .bool false, .int .i64 0, .bool false, .int .i64 0] := fun X => by
        rw [← ek]; rfl
      rw [e]
      have z := zeros_flat s.toNat
      simp only [List.replicate] at z
      have z' : (newD s.toNat k.toNat).S.flatten.map (V.int .u8) = ((List.replicate s.toNat zeroS).flatten).map (V.int .u8) := rfl
      rw [z']
      refine call_keep_eq at15 rfl rfl (by decide) (sx_wp ?_)
      simp +contextual -implicitDefEqProofs (maxSteps := 10000000) only [sxb, plainD, stays, ↓selV_wt, ↓selV_wf, ↓impB_wt, ↓impB_wf, ↓selV_nor, ↓impB_nor, ↓selV_nt, ↓selV_nf, ↓impB_nt, ↓impB_nf, ↓selV_true, ↓selV_false, ↓selV_and, ↓impB_true, ↓impB_false, ↓impB_and, ↓prim_pick, ↓selV_nn, ↓impB_nn, doOp, get, ins, del, dels, Nat.reduceLT, Nat.reduceEqDiff, ↓reduceIte, reduceCtorEq, ne_eq, implies_true, prim, YLD, mkA, V.cells, Nat.reduceAdd, Nat.reduceSub, Nat.reduceMul, Nat.reduceLeDiff, loadA, cellsAt, nAg, packA, List.drop, List.take, List.head?, binA, unA, eqCells, eqCell, negB, fillA, storeA, Ob.with, indexedI, V.oneCell, intOf?, resA, resA1, packR, sealDepth, Int.reduceLT, Int.reduceLE, Int.reduceToNat, Int.reduceNeg, Int.reduceAdd, Int.reduceSub, Int.reduceMul, cond_true, cond_false, Int.reduceBNe, Int.reduceBEq, eq_self, deads, List.replicate, argsF, am15, isNil, g', s0, m1, m2, z, app_get0, app_get, app_set0, app_set, Int.le_refl, mkA]
    · refine ⟨⟨ok, ⟨1, some s.toNat, ?_, ?_⟩, by omega⟩, rfl⟩
      · rw [app_get, eS]; rfl
      · rw [app_get0]; rfl
theorem rnew_spec {N n : Nat} (hn : 1 ≤ n) (s k : Int) (H : Heap) :
    ∃ H', callA am N n 14 [.int .i64 s, .int .i64 k] H = some ((bif newOk s k then .ptr (H.length + 2) 1 0 else .nilp), H') ∧ H'.length = H.length + 3 ∧ (∀ p, p < H.length → H'[p]? = H[p]?) ∧
      (newOk s k = true → RAt H' (H.length + 2) H.length (H.length + 1) (newD s.toNat k.toNat) ∧ H' = H ++ [⟨1, .arr ((newD s.toNat k.toNat).S.flatten.map (V.int .u8))⟩, ⟨1, .arr ((newD s.toNat k.toNat).eps.map (V.int .i64))⟩, ⟨1, .var ((newD s.toNat k.toNat).rcs (.view H.length 1 0 s.toNat 64 (some s.toNat)) (.view (H.length + 1) 1 0 k.toNat 1 (some k.toNat)))⟩]) := by
  obtain ⟨n, rfl⟩ : ∃ m, n = m + 1 := ⟨n - 1, by omega⟩
  cases g : newOk s k with
  | false =>
    have g' : (decide (s < 1) || (decide (s > 4096) || (decide (k < 1) || decide (k > 8)))) = true := (Bool.not_eq_false' _).mp g
    refine ⟨H ++ [⟨0, .dead⟩, ⟨0, .dead⟩, ⟨0, .dead⟩], ?_, by simp, fun p hp => List.getElem?_append_left hp, fun h => by cases h⟩
    refine call_keep_eq at14 rfl rfl (by decide) (sx_wp ?_)
    simp +contextual -implicitDefEqProofs (maxSteps := 10000000) only [sxb, plainD, stays, ↓selV_wt, ↓selV_wf, ↓impB_wt, ↓impB_wf, ↓selV_nor, ↓impB_nor, ↓selV_nt, ↓selV_nf, ↓impB_nt, ↓impB_nf, ↓selV_true, ↓selV_false, ↓selV_and, ↓impB_true, ↓impB_false, ↓impB_and, ↓prim_pick, ↓selV_nn, ↓impB_nn, doOp, get, ins, del, dels, Nat.reduceLT, Nat.reduceEqDiff, ↓reduceIte, reduceCtorEq, ne_eq, implies_true, prim, YLD, mkA, V.cells, Nat.reduceAdd, Nat.reduceSub, Nat.reduceMul, Nat.reduceLeDiff, loadA, cellsAt, nAg, packA, List.drop, List.take, List.head?, binA, unA, eqCells, eqCell, negB, fillA, storeA, Ob.with, indexedI, V.oneCell, intOf?, resA, resA1, packR, sealDepth, Int.reduceLT, Int.reduceLE, Int.reduceToNat, Int.reduceNeg, Int.reduceAdd, Int.reduceSub, Int.reduceMul, cond_true, cond_false, Int.reduceBNe, Int.reduceBEq, eq_self, deads, List.replicate, argsF, am14, isNil, g']
  | true =>
    obtain ⟨h1, h2, h3, h4⟩ := newOk_true g
    have g' : (decide (s < 1) || (decide (s > 4096) || (decide (k < 1) || decide (k > 8)))) = false := (Bool.not_eq_true' _).mp g
    have s0 : 0 ≤ s := by omega
    have k0 : 0 ≤ k := by omega
    have m1 : s.toNat * 64 ≤ maxBytes := by unfold maxBytes; omega
    have m2 : s.toNat ≤ maxBytes := by unfold maxBytes; omega
    have m3 : k.toNat * 8 ≤ maxBytes := by unfold maxBytes; omega
    have m4 : k.toNat ≤ maxBytes := by unfold maxBytes; omega
    have ok := @newD_ok s.toNat k.toNat (by omega) (by omega) (by omega) (by omega)
    have eS : (newD s.toNat k.toNat).S.length = s.toNat := by simp [newD]
    have e8 : (newD s.toNat k.toNat).eps.map (V.int .i64) = (List.replicate k.toNat [V.int .i64 0]).flatten := by
      have : min k.toNat 8 = k.toNat := by omega
      simp only [Dv.eps, newD, List.take_replicate, this, List.map_replicate]
      generalize k.toNat = q
      clear this
      induction q with
      | zero => rfl
      | succ m ih => rw [List.replicate_succ, List.replicate_succ, List.flatten_cons, ← ih]; rfl
    refine ⟨H ++ [⟨1, .arr ((newD s.toNat k.toNat).S.flatten.map (V.int .u8))⟩, ⟨1, .arr ((newD s.toNat k.toNat).eps.map (V.int .i64))⟩, ⟨1, .var ((newD s.toNat k.toNat).rcs (.view H.length 1 0 s.toNat 64 (some s.toNat)) (.view (H.length + 1) 1 0 k.toNat 1 (some k.toNat)))⟩], ?_, by simp, fun p hp => List.getElem?_append_left hp, fun _ => ?_⟩
    · have e : ∀ X Y, (newD s.toNat k.toNat).rcs X Y = [X, Y, .int .i64 (-1), .bool false, .int .i64 0] := fun X Y => rfl
      rw [e, e8]
      have z := zeros_flat s.toNat
      simp only [List.replicate] at z
      have z' : (newD s.toNat k.toNat).S.flatten.map (V.int .u8) = ((List.replicate s.toNat zeroS).flatten).map (V.int .u8) := rfl
      rw [z']
      have hne : (H.length == H.length + 1) = false := by simp
      refine call_keep_eq at14 rfl rfl (by decide) (sx_wp ?_)
      simp +contextual -implicitDefEqProofs (maxSteps := 10000000) only [sxb, plainD, stays, ↓selV_wt, ↓selV_wf, ↓impB_wt, ↓impB_wf, ↓selV_nor, ↓impB_nor, ↓selV_nt, ↓selV_nf, ↓impB_nt, ↓impB_nf, ↓selV_true, ↓selV_false, ↓selV_and, ↓impB_true, ↓impB_false, ↓impB_and, ↓prim_pick, ↓selV_nn, ↓impB_nn, doOp, get, ins, del, dels, Nat.reduceLT, Nat.reduceEqDiff, ↓reduceIte, reduceCtorEq, ne_eq, implies_true, prim, YLD, mkA, V.cells, Nat.reduceAdd, Nat.reduceSub, Nat.reduceMul, Nat.reduceLeDiff, loadA, cellsAt, nAg, packA, List.drop, List.take, List.head?, binA, unA, eqCells, eqCell, negB, fillA, storeA, Ob.with, indexedI, V.oneCell, intOf?, resA, resA1, packR, sealDepth, Int.reduceLT, Int.reduceLE, Int.reduceToNat, Int.reduceNeg, Int.reduceAdd, Int.reduceSub, Int.reduceMul, cond_true, cond_false, Int.reduceBNe, Int.reduceBEq, eq_self, deads, List.replicate, argsF, am14, sx_drawd, reachC_nil, wpd_nil, wpd_cons, wpd_gt, wpd_gf, wpd_gu, wdK_def, fpOf, fpV, fpCall, Fp.ok, okT_of, okT_rd_io, okT_rd_call, okT_rd_bar, tagP_io, tagP_bar, tagP_call, tagF, AOp.rds, disj, List.contains_cons, List.contains_nil, Nat.reduceBEq, List.all_append, V.objsL, V.objs,  List.getD_cons_zero, List.getD_cons_succ, List.append_nil, hne, Bool.not_false, isNil, g', s0, k0, m1, m2, m3, m4, z, app_get0, app_get, app_set0, app_set, Int.le_refl, mkA]
    · refine ⟨⟨ok, ⟨1, some s.toNat, 1, some k.toNat, ?_, ?_, ?_⟩, by omega, by omega, by omega⟩, rfl⟩
      · rw [app_get, eS]; rfl
      · rw [app_get0]; rfl
      · rw [app_get]; rfl
end Go.Am.T


set_option linter.unusedVariables false
set_option linter.unusedSimpArgs false
set_option maxRecDepth 10000
namespace Go.Am.T
attribute [local congr] selV_congr impB_congr
theorem own_box {h : Heap} {b : Ob} {tl : List Ob} {lo : Nat} (hl : h.length = lo) : (h ++ b :: tl)[lo]? = some b := by subst hl; simp
theorem all_spec {N n : Nat} (hn : 1 ≤ n) (d : V) (hd : ∀ cs, d ≠ .agg cs) (hj : d ≠ .junk) (h1 : d.oneCell = true) (h2 : d.cells = [d]) (H : Heap) : callA am N n 41 [d] H = some (.func 59 [] [.ptr H.length 1 0], H ++ [⟨1, .var [d]⟩]) := by
  obtain ⟨n, rfl⟩ : ∃ m, n = m + 1 := ⟨n - 1, by omega⟩
  refine call_keep_eq at41 rfl rfl (by decide) (sx_wp ?_)
  simp +contextual -implicitDefEqProofs (maxSteps := 10000000) only [sxb, plainD, stays, ↓selV_wt, ↓selV_wf, ↓impB_wt, ↓impB_wf, ↓selV_nor, ↓impB_nor, ↓selV_nt, ↓selV_nf, ↓impB_nt, ↓impB_nf, ↓selV_true, ↓selV_false, ↓selV_and, ↓impB_true, ↓impB_false, ↓impB_and, ↓prim_pick, ↓selV_nn, ↓impB_nn, doOp, get, ins, del, dels, Nat.reduceLT, Nat.reduceEqDiff, ↓reduceIte, reduceCtorEq, ne_eq, implies_true, prim, YLD, mkA, V.cells, Nat.reduceAdd, Nat.reduceSub, Nat.reduceMul, Nat.reduceLeDiff, loadA, cellsAt, nAg, packA, List.drop, List.take, List.head?, binA, unA, eqCells, eqCell, negB, fillA, storeA, Ob.with, indexedI, V.oneCell, intOf?, resA, resA1, packR, sealDepth, Int.reduceLT, Int.reduceLE, Int.reduceToNat, Int.reduceNeg, Int.reduceAdd, Int.reduceSub, Int.reduceMul, cond_true, cond_false, Int.reduceBNe, Int.reduceBEq, eq_self, deads, List.replicate, argsF, am41, app_get0, app_get, app_set0, app_set, h1, h2]
structure Taker (D : Dv) (d so : Nat) (N n o ver lo : Nat) (stop : Nat → Bool) (Inv : Bool → Nat → Heap → Prop) : Prop where
  len : ∀ b k h, Inv b k h → h.length = lo
  dev : ∀ b k h, Inv b k h → DAt h d so D
  round : ∀ k h tl, k < D.S.length → Inv true k h → ∃ h', callA am N n YLD [.yld o ver, .int .i64 (k : Nat), secV (D.S.getD k zeroS)] (h ++ tl) = some (.bool (!stop k), h' ++ tl) ∧ Inv (!stop k) (k + 1) h'
structure Taken (L : Nat) (stop : Nat → Bool) (Inv : Bool → Nat → Heap → Prop) (b : Bool) (K : Nat) (h : Heap) : Prop where
  inv : Inv b K h
  all : b = true → K = L ∧ ∀ k, k < K → stop k = false
  left : b = false → ∃ k, K = k + 1 ∧ k < L ∧ stop k = true ∧ ∀ j, j < k → stop j = false
set_option maxHeartbeats 2000000 in
theorem iter_spec {N n : Nat} (hN : 5000 ≤ N) (hn : 3 ≤ n) {D : Dv} {d so : Nat} {o ver lo : Nat} {stop : Nat → Bool} {Inv : Bool → Nat → Heap → Prop}
    (T : Taker D d so N n o ver lo stop Inv) (h : Heap) (tl : List Ob) (hI : Inv true 0 h) :
    ∃ h' q K, callA am N (n + 1) 59 [.yld o ver, .ptr lo 1 0] (h ++ ⟨1, .var [.ptr d 1 0]⟩ :: tl) = some (.tup [], h' ++ ⟨1, .var [.ptr d 1 0]⟩ :: tl) ∧ Taken D.S.length stop Inv q K h' := by
  have hl := T.len _ _ _ hI
  have ok := (T.dev _ _ _ hI).ok
  have s4 := ok.s4
  have c32 := @size_spec N n (by omega) (h ++ ⟨1, .var [.ptr d 1 0]⟩ :: tl) _ _ ((T.dev _ _ _ hI).app _).looks
  suffices H : ∃ v' h'', callA am N (n + 1) 59 [.yld o ver, .ptr lo 1 0] (h ++ ⟨1, .var [.ptr d 1 0]⟩ :: tl) = some (v', h'') ∧ v' = .tup [] ∧ ∃ h' b K, h'' = h' ++ ⟨1, .var [.ptr d 1 0]⟩ :: tl ∧ Taken D.S.length stop Inv b K h' by
    obtain ⟨_, _, h1, rfl, h', b, K, rfl, h2⟩ := H
    exact ⟨h', b, K, h1, h2⟩
  refine call_keep at59 rfl rfl (by decide) (sx_wp ?_)
  have b0 := @own_box h ⟨1, .var [.ptr d 1 0]⟩ tl lo hl
  simp +contextual -implicitDefEqProofs (maxSteps := 10000000) only [sxb, plainD, stays, ↓selV_wt, ↓selV_wf, ↓impB_wt, ↓impB_wf, ↓selV_nor, ↓impB_nor, ↓selV_nt, ↓selV_nf, ↓impB_nt, ↓impB_nf, ↓selV_true, ↓selV_false, ↓selV_and, ↓impB_true, ↓impB_false, ↓impB_and, ↓prim_pick, ↓selV_nn, ↓impB_nn, doOp, get, ins, del, dels, Nat.reduceLT, Nat.reduceEqDiff, ↓reduceIte, reduceCtorEq, ne_eq, implies_true, prim, YLD, mkA, V.cells, Nat.reduceAdd, Nat.reduceSub, Nat.reduceMul, Nat.reduceLeDiff, loadA, cellsAt, nAg, packA, List.drop, List.take, List.head?, binA, unA, eqCells, eqCell, negB, fillA, storeA, Ob.with, indexedI, V.oneCell, intOf?, resA, resA1, packR, sealDepth, Int.reduceLT, Int.reduceLE, Int.reduceToNat, Int.reduceNeg, Int.reduceAdd, Int.reduceSub, Int.reduceMul, cond_true, cond_false, Int.reduceBNe, Int.reduceBEq, eq_self, deads, List.replicate, argsF, am59, b0, c32, List.append_nil]
  refine sx_loop (fun i t H => t = fr 21 [(0, .yld o ver), (1, .ptr lo 1 0), (5, .int .i64 D.S.length), (6, .int .i64 i)] ∧ i ≤ D.S.length ∧ ∃ h1, H = h1 ++ ⟨1, .var [.ptr d 1 0]⟩ :: tl ∧ Inv true i h1 ∧ ∀ j, j < i → stop j = false) D.S.length (by show D.S.length < N; omega) ⟨rfl, Nat.zero_le _, h, rfl, hI, fun j hj => by omega⟩ ?_
  rintro i t H hi ⟨rfl, hi8, h1, rfl, hI1, hf⟩
  have hl1 := T.len _ _ _ hI1
  have b0 := @own_box h1 ⟨1, .var [.ptr d 1 0]⟩ tl lo hl1
  by_cases hlt : i < D.S.length
  · have g1 : decide ((i : Int) < (D.S.length : Int)) = true := decide_eq_true (by omega)
    have i0 : (0 : Int) ≤ (i : Int) := by omega
    have i1 : (i : Int) < (D.S.length : Int) := by omega
    have w4 : IntKind.i64.wrap ((i : Int) + 1) = ((i + 1 : Nat) : Int) := (wrap64 (by omega) (by omega)).trans (by omega)
    have hi1 : i + 1 ≤ D.S.length := by omega
    obtain ⟨v0, cap, hd, ho⟩ := ((T.dev _ _ _ hI1).app (⟨1, .var [.ptr d 1 0]⟩ :: tl)).ob
    have q1 := fun X => @dv_len D X ok.e8
    have q0 : ∀ X, List.take 1 (D.cs X) = [X] := fun X => rfl
    have fl : (D.S.flatten.map (V.int .u8)).length = D.S.length * 64 := by rw [List.length_map, flat_len ok.sec]
    have le : i * 64 + 64 ≤ D.S.length * 64 := by omega
    have fa := @flat_at D.S i ok.sec hlt
    have oa := ints_one .u8 (D.S.getD i zeroS)
    obtain ⟨h2, hr, hI2⟩ := T.round i h1 (⟨1, .var [.ptr d 1 0]⟩ :: tl) hlt hI1
    unfold secV at hr
    generalize D.S.flatten.map (V.int .u8) = F at *
    generalize (D.S.getD i zeroS).map (V.int .u8) = as at *
    cases hs : stop i with
    | true =>
      rw [hs] at hr hI2
      simp +contextual -implicitDefEqProofs (maxSteps := 10000000) only [sxb, plainD, stays, ↓selV_wt, ↓selV_wf, ↓impB_wt, ↓impB_wf, ↓selV_nor, ↓impB_nor, ↓selV_nt, ↓selV_nf, ↓impB_nt, ↓impB_nf, ↓selV_true, ↓selV_false, ↓selV_and, ↓impB_true, ↓impB_false, ↓impB_and, ↓prim_pick, ↓selV_nn, ↓impB_nn, doOp, get, ins, del, dels, Nat.reduceLT, Nat.reduceEqDiff, ↓reduceIte, reduceCtorEq, ne_eq, implies_true, prim, YLD, mkA, V.cells, Nat.reduceAdd, Nat.reduceSub, Nat.reduceMul, Nat.reduceLeDiff, loadA, cellsAt, nAg, packA, List.drop, List.take, List.head?, binA, unA, eqCells, eqCell, negB, fillA, storeA, Ob.with, indexedI, V.oneCell, intOf?, resA, resA1, packR, sealDepth, Int.reduceLT, Int.reduceLE, Int.reduceToNat, Int.reduceNeg, Int.reduceAdd, Int.reduceSub, Int.reduceMul, cond_true, cond_false, Int.reduceBNe, Int.reduceBEq, eq_self, deads, List.replicate, argsF, g1, b0, hd, ho, q1, q0, iaddrSA, i0, i1, fl, le, fa, oa, cvP_yld, hr, Int.toNat_natCast, List.append_nil]
      exact ⟨h2, false, _, rfl, hI2, fun h => by (cases h), fun _ => ⟨_, rfl, hlt, hs, hf⟩⟩
    | false =>
      rw [hs] at hr hI2
      simp +contextual -implicitDefEqProofs (maxSteps := 10000000) only [sxb, plainD, stays, ↓selV_wt, ↓selV_wf, ↓impB_wt, ↓impB_wf, ↓selV_nor, ↓impB_nor, ↓selV_nt, ↓selV_nf, ↓impB_nt, ↓impB_nf, ↓selV_true, ↓selV_false, ↓selV_and, ↓impB_true, ↓impB_false, ↓impB_and, ↓prim_pick, ↓selV_nn, ↓impB_nn, doOp, get, ins, del, dels, Nat.reduceLT, Nat.reduceEqDiff, ↓reduceIte, reduceCtorEq, ne_eq, implies_true, prim, YLD, mkA, V.cells, Nat.reduceAdd, Nat.reduceSub, Nat.reduceMul, Nat.reduceLeDiff, loadA, cellsAt, nAg, packA, List.drop, List.take, List.head?, binA, unA, eqCells, eqCell, negB, fillA, storeA, Ob.with, indexedI, V.oneCell, intOf?, resA, resA1, packR, sealDepth, Int.reduceLT, Int.reduceLE, Int.reduceToNat, Int.reduceNeg, Int.reduceAdd, Int.reduceSub, Int.reduceMul, cond_true, cond_false, Int.reduceBNe, Int.reduceBEq, eq_self, deads, List.replicate, argsF, g1, b0, hd, ho, q1, q0, iaddrSA, i0, i1, fl, le, fa, oa, cvP_yld, hr, w4, hi1, hlt, Int.toNat_natCast, List.append_nil]
      refine ⟨h2, rfl, hI2, fun j hj => ?_⟩
      by_cases ej : j = i
      · rw [ej]; exact hs
      · exact hf j (by omega)
  · have e8 : i = D.S.length := by omega
    subst e8
    have g1 : decide ((D.S.length : Int) < (D.S.length : Int)) = false := decide_eq_false (by omega)
    simp +contextual -implicitDefEqProofs (maxSteps := 10000000) only [sxb, plainD, stays, ↓selV_wt, ↓selV_wf, ↓impB_wt, ↓impB_wf, ↓selV_nor, ↓impB_nor, ↓selV_nt, ↓selV_nf, ↓impB_nt, ↓impB_nf, ↓selV_true, ↓selV_false, ↓selV_and, ↓impB_true, ↓impB_false, ↓impB_and, ↓prim_pick, ↓selV_nn, ↓impB_nn, doOp, get, ins, del, dels, Nat.reduceLT, Nat.reduceEqDiff, ↓reduceIte, reduceCtorEq, ne_eq, implies_true, prim, YLD, mkA, V.cells, Nat.reduceAdd, Nat.reduceSub, Nat.reduceMul, Nat.reduceLeDiff, loadA, cellsAt, nAg, packA, List.drop, List.take, List.head?, binA, unA, eqCells, eqCell, negB, fillA, storeA, Ob.with, indexedI, V.oneCell, intOf?, resA, resA1, packR, sealDepth, Int.reduceLT, Int.reduceLE, Int.reduceToNat, Int.reduceNeg, Int.reduceAdd, Int.reduceSub, Int.reduceMul, cond_true, cond_false, Int.reduceBNe, Int.reduceBEq, eq_self, deads, List.replicate, argsF, g1, List.append_nil]
    exact ⟨h1, true, _, rfl, hI1, fun _ => ⟨rfl, hf⟩, fun h => by cases h⟩
end Go.Am.T


set_option linter.unusedVariables false
set_option linter.unusedSimpArgs false
set_option maxRecDepth 10000
namespace Go.Am.T
attribute [local congr] selV_congr impB_congr
def BRow (o : Nat) (y : Ob) (W : V) (L : List Int) : Prop :=
  (L = [] ∧ W = .nils) ∨ (L ≠ [] ∧ W = .view o y.ver 0 L.length 1 none ∧ y.bd = .arr (L.map (V.int .u8)))
theorem brow_append {H : Heap} {o m : Nat} {y : Ob} {W z : V} {L new : List Int} (h : BRow o y W L) (ho : H[o]? = some y) (hl : lenA z = some m) (hf : firstA (fun o => H[o]?) 1 m z = some (new.map (V.int .u8))) (hm : new.length = m) (h0 : m ≠ 0) (hb : L.length + m ≤ 1000000) :
    ∃ v, appendA (fun o => H[o]?) o 1 1 W z = some (.set o ⟨v, .arr ((L ++ new).map (V.int .u8))⟩ (.view o v 0 (L ++ new).length 1 none)) := by
  have h1 := ints_one .u8 new
  rcases h with ⟨rfl, rfl⟩ | ⟨hne, rfl, hy⟩
  · refine ⟨y.ver + 1, ?_⟩
    have : m ≤ maxBytes := by simp only [List.length_nil] at hb; unfold maxBytes; omega
    simp [appendA, hl, hf, h1, h0, mkA, ho, this, hm]
  · refine ⟨y.ver + 1, ?_⟩
    have : L.length + m ≤ maxBytes := by unfold maxBytes; omega
    obtain ⟨ver, bd⟩ := y
    simp only at hy
    subst hy
    simp [appendA, hl, hf, h1, h0, cellsAt, ho, this, hm]
theorem brow_mk {o v : Nat} {L : List Int} (h : L ≠ []) : BRow o ⟨v, .arr (L.map (V.int .u8))⟩ (.view o v 0 L.length 1 none) L := .inr ⟨h, rfl, rfl⟩
theorem brow_one {o : Nat} {y : Ob} {W : V} {L : List Int} (h : BRow o y W L) : W.cells = [W] ∧ W.oneCell = true ∧ (∀ cs, W ≠ .agg cs) ∧ W ≠ .junk ∧ (∀ cs, W ≠ .tup cs) := by
  rcases h with ⟨-, rfl⟩ | ⟨-, rfl, -⟩ <;> exact ⟨rfl, rfl, fun _ => V.noConfusion, V.noConfusion, fun _ => V.noConfusion⟩
def tB (b : Nat) : List V := fr 14 [(2, .nils), (3, .ptr b 1 0), (7, .func 59 [] [.ptr (b + 4) 1 0])]
def InvB (H : Heap) (D : Dv) : Bool → Nat → Heap → Prop
  | true, k, h => ∃ W x1 y, h = H ++ [⟨1, .var [W]⟩, x1, y, ⟨1, .loop 0 none (tB H.length) H.length 35 0⟩] ∧ BRow (H.length + 2) y W (D.S.take k).flatten
  | false, _, _ => False
theorem take_flat_len {D : Dv} (ok : D.Ok) (k : Nat) : (D.S.take k).flatten.length = (D.S.take k).length * 64 := flat_len fun s hs => ok.sec s (List.mem_of_mem_take hs)
theorem take_flat_succ {D : Dv} {k : Nat} (hk : k < D.S.length) : (D.S.take (k + 1)).flatten = (D.S.take k).flatten ++ D.S.getD k zeroS := by
  rw [List.take_add_one, List.flatten_append, List.getElem?_eq_getElem hk, List.getD_eq_getElem?_getD, List.getElem?_eq_getElem hk]
  simp
set_option maxHeartbeats 1000000 in
theorem bytes_taker {N n : Nat} (hn : 1 ≤ n) {H : Heap} {d so : Nat} {D : Dv} (h : DAt H d so D) : Taker D d so N n (H.length + 3) 1 (H.length + 4) (fun _ => false) (InvB H D) := by
  have ok := h.ok
  have s4 := ok.s4
  refine ⟨?_, ?_, ?_⟩
  · rintro (_ | _) k h1 hI
    · exact hI.elim
    · obtain ⟨W, x1, y, rfl, -⟩ := hI
      simp
  · rintro (_ | _) k h1 hI
    · exact hI.elim
    · obtain ⟨W, x1, y, rfl, -⟩ := hI
      exact h.app _
  · rintro k h1 tl hk ⟨W, x1, y, rfl, hR⟩
    obtain ⟨n, rfl⟩ : ∃ m, n = m + 1 := ⟨n - 1, by omega⟩
    obtain ⟨hW1, hW2, hW3, hW4, hW5⟩ := brow_one hR
    have hl : (D.S.getD k zeroS).length = 64 := by
      rw [List.getD_eq_getElem?_getD, List.getElem?_eq_getElem hk]
      exact ok.sec _ (List.getElem_mem hk)
    have hl' : ((D.S.getD k zeroS).map (V.int .u8)).length = 64 := by rw [List.length_map, hl]
    have oa := ints_one .u8 (D.S.getD k zeroS)
    have tk : List.take 64 ((D.S.getD k zeroS).map (V.int .u8)) = (D.S.getD k zeroS).map (V.int .u8) := List.take_of_length_le (by rw [hl']; exact Nat.le_refl _)
    obtain ⟨K, hK⟩ : ∃ K : Heap, K = H ++ (⟨1, .var [W]⟩ :: ⟨x1.ver + 1, .var ((D.S.getD k zeroS).map (V.int .u8))⟩ :: y :: ⟨1, .loop 1 none (tB H.length) H.length 35 0⟩ :: tl) := ⟨_, rfl⟩
    have k1 : K[H.length + 1]? = some ⟨x1.ver + 1, .var ((D.S.getD k zeroS).map (V.int .u8))⟩ := by rw [hK, app_get]; rfl
    have hbl : (D.S.take k).flatten.length + 64 ≤ 1000000 := by
      rw [take_flat_len ok]
      have : (D.S.take k).length ≤ k := by rw [List.length_take]; omega
      omega
    obtain ⟨v, ha⟩ := @brow_append K (H.length + 2) 64 y W (.view (H.length + 1) (x1.ver + 1) 0 64 1 (some 64)) _ (D.S.getD k zeroS) hR (by rw [hK, app_get]; rfl) rfl (by
      simp only [firstA, ↓reduceIte, Nat.le_refl, loadA, cellsAt, k1, hl', Nat.mul_one, Nat.zero_add, List.drop_zero, tk]) hl (by decide) hbl
    have hR2 : BRow (H.length + 2) ⟨v, .arr (((D.S.take k).flatten ++ D.S.getD k zeroS).map (V.int .u8))⟩ (.view (H.length + 2) v 0 ((D.S.take k).flatten ++ D.S.getD k zeroS).length 1 none) ((D.S.take (k + 1)).flatten) := by
      rw [take_flat_succ hk]
      exact brow_mk fun e => by rw [List.append_eq_nil_iff] at e; rw [e.2] at hl; cases hl
    refine ⟨H ++ [⟨1, .var [.view (H.length + 2) v 0 ((D.S.take k).flatten ++ D.S.getD k zeroS).length 1 none]⟩, ⟨x1.ver + 1, .var ((D.S.getD k zeroS).map (V.int .u8))⟩, ⟨v, .arr (((D.S.take k).flatten ++ D.S.getD k zeroS).map (V.int .u8))⟩, ⟨1, .loop 0 none (tB H.length) H.length 35 0⟩], ?_, ⟨_, _, _, rfl, hR2⟩⟩
    generalize ((D.S.take k).flatten ++ D.S.getD k zeroS).length = len at *
    generalize ((D.S.take k).flatten ++ D.S.getD k zeroS).map (V.int .u8) = new at *
    unfold secV
    generalize (D.S.getD k zeroS).map (V.int .u8) = as at *
    subst hK
    rw [List.append_assoc, List.append_assoc]
    simp only [List.cons_append, List.nil_append]
    refine call_yld (st := 0) (pd := none) (t := tB H.length) (fb := H.length) (f := 35) (k := 0) (af := am35) (ho := by rw [app_get]; rfl) (hp := at35) (hr := rfl) (hl := rfl) ?_
    unfold tB at *
    simp +contextual -implicitDefEqProofs (maxSteps := 10000000) only [sxb, plainD, stays, ↓selV_wt, ↓selV_wf, ↓impB_wt, ↓impB_wf, ↓selV_nor, ↓impB_nor, ↓selV_nt, ↓selV_nf, ↓impB_nt, ↓impB_nf, ↓selV_true, ↓selV_false, ↓selV_and, ↓impB_true, ↓impB_false, ↓impB_and, ↓prim_pick, ↓selV_nn, ↓impB_nn, doOp, get, ins, del, dels, Nat.reduceLT, Nat.reduceEqDiff, ↓reduceIte, reduceCtorEq, ne_eq, implies_true, prim, YLD, mkA, V.cells, Nat.reduceAdd, Nat.reduceSub, Nat.reduceMul, Nat.reduceLeDiff, loadA, cellsAt, nAg, packA, List.drop, List.take, List.head?, binA, unA, eqCells, eqCell, negB, fillA, storeA, Ob.with, indexedI, V.oneCell, intOf?, resA, resA1, packR, sealDepth, Int.reduceLT, Int.reduceLE, Int.reduceToNat, Int.reduceNeg, Int.reduceAdd, Int.reduceSub, Int.reduceMul, cond_true, cond_false, Int.reduceBNe, Int.reduceBEq, eq_self, deads, List.replicate, argsF, setPs_cons, setPs_nil, app_get0, app_get, app_set0, app_set, oa, hl', mkA]
    refine ⟨_, _, _, _, _, rfl, ?_⟩
    simp +contextual -implicitDefEqProofs (maxSteps := 10000000) only [sxb, plainD, stays, ↓selV_wt, ↓selV_wf, ↓impB_wt, ↓impB_wf, ↓selV_nor, ↓impB_nor, ↓selV_nt, ↓selV_nf, ↓impB_nt, ↓impB_nf, ↓selV_true, ↓selV_false, ↓selV_and, ↓impB_true, ↓impB_false, ↓impB_and, ↓prim_pick, ↓selV_nn, ↓impB_nn, doOp, get, ins, del, dels, Nat.reduceLT, Nat.reduceEqDiff, ↓reduceIte, reduceCtorEq, ne_eq, implies_true, prim, YLD, mkA, V.cells, Nat.reduceAdd, Nat.reduceSub, Nat.reduceMul, Nat.reduceLeDiff, loadA, cellsAt, nAg, packA, List.drop, List.take, List.head?, binA, unA, eqCells, eqCell, negB, fillA, storeA, Ob.with, indexedI, V.oneCell, intOf?, resA, resA1, packR, sealDepth, Int.reduceLT, Int.reduceLE, Int.reduceToNat, Int.reduceNeg, Int.reduceAdd, Int.reduceSub, Int.reduceMul, cond_true, cond_false, Int.reduceBNe, Int.reduceBEq, eq_self, deads, List.replicate, argsF, app_get0, app_get, app_set0, app_set, oa, hl', mkA, hW1, hW2, boundsA, Option.isNone, ha]
    exact ⟨_, _, _, _, _, _, rfl, rfl, rfl⟩
end Go.Am.T


set_option linter.unusedVariables false
set_option linter.unusedSimpArgs false
set_option maxRecDepth 10000
namespace Go.Am.T
attribute [local congr] selV_congr impB_congr
def Byt (H : Heap) (p : Nat) (W : V) (L : List Int) : Prop := ∃ o v, p ≤ o ∧ W = .view o v 0 L.length 1 none ∧ H[o]? = some ⟨v, .arr (L.map (V.int .u8))⟩
theorem flat_ne {D : Dv} (ok : D.Ok) : D.S.flatten ≠ [] := fun e => by
  have h1 := flat_len ok.sec
  have := ok.s1
  rw [e] at h1
  simp only [List.length_nil] at h1
  omega
theorem brow_byt {H : Heap} {o p : Nat} {y : Ob} {W : V} {L : List Int} (h : BRow o y W L) (ho : H[o]? = some y) (hp : p ≤ o) (hL : L ≠ []) : Byt H p W L := by
  rcases h with ⟨rfl, -⟩ | ⟨-, rfl, hy⟩
  · exact absurd rfl hL
  · obtain ⟨v, bd⟩ := y
    simp only at hy
    subst hy
    exact ⟨o, v, hp, rfl, ho⟩
set_option maxHeartbeats 1000000 in
theorem bytes_spec {N n : Nat} (hN : 5000 ≤ N) (hn : 5 ≤ n) {H : Heap} {d so : Nat} {D : Dv} (h : DAt H d so D) :
    ∃ H' W, callA am N n 35 [.ptr d 1 0] H = some (W, H') ∧ H.length ≤ H'.length ∧ (∀ p, p < H.length → H'[p]? = H[p]?) ∧ Byt H' H.length W D.S.flatten := by
  obtain ⟨n, rfl⟩ : ∃ m, n = m + 2 := ⟨n - 2, by omega⟩
  have ok := h.ok
  have c41 := fun H => @all_spec N (n + 1) (by omega) (.ptr d 1 0) (fun _ => V.noConfusion) V.noConfusion rfl rfl H
  have T := @bytes_taker N n (by omega) H d so D h
  obtain ⟨h', q, K, hc, hT⟩ := iter_spec hN (by omega) T (H ++ [⟨1, .var [.nils]⟩, ⟨0, .dead⟩, ⟨0, .dead⟩, ⟨1, .loop 0 none (tB H.length) H.length 35 0⟩]) [] ⟨.nils, _, _, rfl, .inl ⟨rfl, rfl⟩⟩
  cases q with
  | false => exact hT.inv.elim
  | true =>
    obtain ⟨W, x1, y, rfl, hR⟩ := hT.inv
    obtain ⟨rfl, -⟩ := hT.all rfl
    rw [List.take_length] at hR
    obtain ⟨hW1, hW2, hW3, hW4, hW5⟩ := brow_one hR
    refine ⟨H ++ [⟨1, .var [W]⟩, x1, y, ⟨1, .dead⟩, ⟨1, .var [.ptr d 1 0]⟩], W, ?_, by simp, fun p hp => List.getElem?_append_left hp, brow_byt hR (by rw [app_get]; rfl) (by omega) (flat_ne ok)⟩
    refine call_keep_eq at35 rfl rfl (by decide) (sx_wp ?_)
    rw [List.append_assoc, List.append_assoc] at hc
    simp only [List.cons_append, List.nil_append] at hc
    unfold tB at hc
    have l4 : ∀ a b c d : Ob, (H ++ [a, b, c, d]).length = H.length + 4 := fun _ _ _ _ => by simp
    simp +contextual -implicitDefEqProofs (maxSteps := 10000000) only [sxb, plainD, stays, ↓selV_wt, ↓selV_wf, ↓impB_wt, ↓impB_wf, ↓selV_nor, ↓impB_nor, ↓selV_nt, ↓selV_nf, ↓impB_nt, ↓impB_nf, ↓selV_true, ↓selV_false, ↓selV_and, ↓impB_true, ↓impB_false, ↓impB_and, ↓prim_pick, ↓selV_nn, ↓impB_nn, doOp, get, ins, del, dels, Nat.reduceLT, Nat.reduceEqDiff, ↓reduceIte, reduceCtorEq, ne_eq, implies_true, prim, YLD, mkA, V.cells, Nat.reduceAdd, Nat.reduceSub, Nat.reduceMul, Nat.reduceLeDiff, loadA, cellsAt, nAg, packA, List.drop, List.take, List.head?, binA, unA, eqCells, eqCell, negB, fillA, storeA, Ob.with, indexedI, V.oneCell, intOf?, resA, resA1, packR, sealDepth, Int.reduceLT, Int.reduceLE, Int.reduceToNat, Int.reduceNeg, Int.reduceAdd, Int.reduceSub, Int.reduceMul, cond_true, cond_false, Int.reduceBNe, Int.reduceBEq, eq_self, deads, List.replicate, argsF, am35, isNil, app_get0, app_get, app_set0, app_set, c41, mkA, List.append_assoc, List.cons_append, List.nil_append, l4]
    refine sx_rangeF (x := ⟨0, .dead⟩) (g := 59) (xs := []) (ys := [.ptr (H.length + 4) 1 0]) (by rw [app_get]; rfl) rfl (by simp only [app_set, List.set_cons_succ, List.set_cons_zero]; exact hc) (st := 0) (by rw [app_get]; rfl) (by decide) ?_
    simp only [jumpE, app_set]
    simp +contextual -implicitDefEqProofs (maxSteps := 10000000) only [sxb, plainD, stays, ↓selV_wt, ↓selV_wf, ↓impB_wt, ↓impB_wf, ↓selV_nor, ↓impB_nor, ↓selV_nt, ↓selV_nf, ↓impB_nt, ↓impB_nf, ↓selV_true, ↓selV_false, ↓selV_and, ↓impB_true, ↓impB_false, ↓impB_and, ↓prim_pick, ↓selV_nn, ↓impB_nn, doOp, get, ins, del, dels, Nat.reduceLT, Nat.reduceEqDiff, ↓reduceIte, reduceCtorEq, ne_eq, implies_true, prim, YLD, mkA, V.cells, Nat.reduceAdd, Nat.reduceSub, Nat.reduceMul, Nat.reduceLeDiff, loadA, cellsAt, nAg, packA, List.drop, List.take, List.head?, binA, unA, eqCells, eqCell, negB, fillA, storeA, Ob.with, indexedI, V.oneCell, intOf?, resA, resA1, packR, sealDepth, Int.reduceLT, Int.reduceLE, Int.reduceToNat, Int.reduceNeg, Int.reduceAdd, Int.reduceSub, Int.reduceMul, cond_true, cond_false, Int.reduceBNe, Int.reduceBEq, eq_self, deads, List.replicate, argsF, app_get0, app_get, app_set0, app_set, hW1, hW2, List.append_nil]
end Go.Am.T


set_option linter.unusedVariables false
set_option linter.unusedSimpArgs false
set_option maxRecDepth 10000
namespace Go.Am.T
attribute [local congr] selV_congr impB_congr
theorem flat_at1 {S : List (List Int)} {i j : Nat} (h : ∀ s ∈ S, s.length = 64) (hi : i < S.length) (hj : j < 64) : List.take 1 (List.drop (i * 64 + j) (S.flatten.map (V.int .u8))) = [.int .u8 ((S.getD i zeroS).getD j 0)] := by
  have h1 := flat_at h hi
  have hl : (S.getD i zeroS).length = 64 := by
    rw [List.getD_eq_getElem?_getD, List.getElem?_eq_getElem hi]
    exact h _ (List.getElem_mem hi)
  have h2 : List.take 1 (List.drop j (List.take 64 (List.drop (i * 64) (S.flatten.map (V.int .u8))))) = List.take 1 (List.drop (i * 64 + j) (S.flatten.map (V.int .u8))) := by
    rw [List.drop_take, List.take_take, List.drop_drop, show min 1 (64 - j) = 1 by omega]
  rw [← h2, h1, ← List.map_drop, List.drop_eq_getElem_cons (by omega)]
  rw [List.getD_eq_getElem?_getD (l := S.getD i zeroS), List.getElem?_eq_getElem (by omega : j < (S.getD i zeroS).length)]
  rfl
set_option maxHeartbeats 2000000 in
theorem rbytes_spec {N n : Nat} (hN : 5000 ≤ N) (hn : 1 ≤ n) {H : Heap} {r s e : Nat} {D : Dv} (h : RAt H r s e D) :
    ∃ H' W, callA am N n 36 [.ptr r 1 0] H = some (W, H') ∧ H.length ≤ H'.length ∧ (∀ p, p < H.length → H'[p]? = H[p]?) ∧ Byt H' H.length W D.S.flatten := by
  obtain ⟨n, rfl⟩ : ∃ m, n = m + 1 := ⟨n - 1, by omega⟩
  have ok := h.ok
  have s4 := ok.s4
  suffices Hs : ∃ W H', callA am N (n + 1) 36 [.ptr r 1 0] H = some (W, H') ∧ ∃ x y, H' = H ++ [x, y] ∧ BRow (H.length + 1) y W D.S.flatten by
    obtain ⟨W, H', h1, x, y, rfl, h2⟩ := Hs
    exact ⟨_, W, h1, by simp, fun p hp => List.getElem?_append_left hp, brow_byt h2 (by rw [app_get]; rfl) (by omega) (flat_ne ok)⟩
  refine call_keep at36 rfl rfl (by decide) (sx_wp ?_)
  simp +contextual -implicitDefEqProofs (maxSteps := 10000000) only [sxb, plainD, stays, ↓selV_wt, ↓selV_wf, ↓impB_wt, ↓impB_wf, ↓selV_nor, ↓impB_nor, ↓selV_nt, ↓selV_nf, ↓impB_nt, ↓impB_nf, ↓selV_true, ↓selV_false, ↓selV_and, ↓impB_true, ↓impB_false, ↓impB_and, ↓prim_pick, ↓selV_nn, ↓impB_nn, doOp, get, ins, del, dels, Nat.reduceLT, Nat.reduceEqDiff, ↓reduceIte, reduceCtorEq, ne_eq, implies_true, prim, YLD, mkA, V.cells, Nat.reduceAdd, Nat.reduceSub, Nat.reduceMul, Nat.reduceLeDiff, loadA, cellsAt, nAg, packA, List.drop, List.take, List.head?, binA, unA, eqCells, eqCell, negB, fillA, storeA, Ob.with, indexedI, V.oneCell, intOf?, resA, resA1, packR, sealDepth, Int.reduceLT, Int.reduceLE, Int.reduceToNat, Int.reduceNeg, Int.reduceAdd, Int.reduceSub, Int.reduceMul, cond_true, cond_false, Int.reduceBNe, Int.reduceBEq, eq_self, deads, List.replicate, argsF, am36, isNil]
  refine sx_loop (fun i t K => i ≤ D.S.length ∧ ∃ W x y, t = fr 36 [(0, .ptr r 1 0), (3, W), (4, .int .i64 i)] ∧ K = H ++ [x, y] ∧ BRow (H.length + 1) y W (D.S.take i).flatten) D.S.length (by show D.S.length < N; omega) ⟨Nat.zero_le _, .nils, _, _, rfl, rfl, .inl ⟨rfl, rfl⟩⟩ ?_
  rintro i t K hi ⟨hi', W, x, y, rfl, rfl, hR⟩
  obtain ⟨ver, cap, ver', cap', hr, hs, he⟩ := (h.app [x, y]).ob
  have fl : (D.S.flatten.map (V.int .u8)).length = D.S.length * 64 := by rw [List.length_map, flat_len ok.sec]
  have ercs : ∀ X Y, D.rcs X Y = [X, Y, .int .i64 D.rl, .bool D.lost, .int .i64 D.done] := fun X Y => rfl
  obtain ⟨hW1, hW2, hW3, hW4, hW5⟩ := brow_one hR
  by_cases hlt : i < D.S.length
  · have g1 : decide ((i : Int) < (D.S.length : Int)) = true := decide_eq_true (by omega)
    have w4 : IntKind.i64.wrap ((i : Int) + 1) = ((i + 1 : Nat) : Int) := (wrap64 (by omega) (by omega)).trans (by omega)
    have hi1 : i + 1 ≤ D.S.length := by omega
    have i0 : (0 : Int) ≤ (i : Int) := by omega
    have i1 : (i : Int) < (D.S.length : Int) := by omega
    have hl64 : (D.S.getD i zeroS).length = 64 := by
      rw [List.getD_eq_getElem?_getD, List.getElem?_eq_getElem hlt]
      exact ok.sec _ (List.getElem_mem hlt)
    have hfl := take_flat_len ok i
    have htl : (D.S.take i).length ≤ i := by rw [List.length_take]; omega
    simp +contextual -implicitDefEqProofs (maxSteps := 10000000) only [sxb, plainD, stays, ↓selV_wt, ↓selV_wf, ↓impB_wt, ↓impB_wf, ↓selV_nor, ↓impB_nor, ↓selV_nt, ↓selV_nf, ↓impB_nt, ↓impB_nf, ↓selV_true, ↓selV_false, ↓selV_and, ↓impB_true, ↓impB_false, ↓impB_and, ↓prim_pick, ↓selV_nn, ↓impB_nn, doOp, get, ins, del, dels, Nat.reduceLT, Nat.reduceEqDiff, ↓reduceIte, reduceCtorEq, ne_eq, implies_true, prim, YLD, mkA, V.cells, Nat.reduceAdd, Nat.reduceSub, Nat.reduceMul, Nat.reduceLeDiff, loadA, cellsAt, nAg, packA, List.drop, List.take, List.head?, binA, unA, eqCells, eqCell, negB, fillA, storeA, Ob.with, indexedI, V.oneCell, intOf?, resA, resA1, packR, sealDepth, Int.reduceLT, Int.reduceLE, Int.reduceToNat, Int.reduceNeg, Int.reduceAdd, Int.reduceSub, Int.reduceMul, cond_true, cond_false, Int.reduceBNe, Int.reduceBEq, eq_self, deads, List.replicate, argsF, isNil, hr, ercs, lenA, g1]
    refine sx_loop (fun j t K => j ≤ 64 ∧ ∃ W x y, t = fr 36 [(0, .ptr r 1 0), (3, W), (4, .int .i64 i), (5, .int .i64 j)] ∧ K = H ++ [x, y] ∧ BRow (H.length + 1) y W ((D.S.take i).flatten ++ (D.S.getD i zeroS).take j)) 64 (by show 64 < N; omega) ⟨by omega, W, x, y, rfl, rfl, by rw [List.take_zero, List.append_nil]; exact hR⟩ ?_
    clear hR hW1 hW2 hW3 hW4 hW5 hr hs he ver ver' cap cap'
    rintro j t K hj ⟨hj', W, x, y, rfl, rfl, hR⟩
    obtain ⟨hW1, hW2, hW3, hW4, hW5⟩ := brow_one hR
    by_cases hjt : j < 64
    · have g2 : decide ((j : Int) < 64) = true := decide_eq_true (by omega)
      have w5 : IntKind.i64.wrap ((j : Int) + 1) = ((j + 1 : Nat) : Int) := (wrap64 (by omega) (by omega)).trans (by omega)
      have j0 : (0 : Int) ≤ (j : Int) := by omega
      have j1 : (j : Int) < ((64 : Nat) : Int) := by omega
      have j1' : (j : Int) < 64 := by omega
      have hj1 : j + 1 ≤ 64 := by omega
      have fa := flat_at1 ok.sec hlt hjt
      have le : i * 64 + j + 1 ≤ D.S.length * 64 := by omega
      obtain ⟨ver, cap, ver', cap', hr, hs, he⟩ := (h.app [x, y]).ob
      obtain ⟨K, hK⟩ : ∃ K : Heap, K = H ++ [⟨x.ver + 1, .arr [.int .u8 ((D.S.getD i zeroS).getD j 0)]⟩, y] := ⟨_, rfl⟩
      have hbl : ((D.S.take i).flatten ++ (D.S.getD i zeroS).take j).length + 1 ≤ 1000000 := by
        rw [List.length_append, List.length_take]
        omega
      obtain ⟨v, ha⟩ := @brow_append K (H.length + 1) 1 y W (.view H.length (x.ver + 1) 0 1 1 (some 1)) _ [(D.S.getD i zeroS).getD j 0] hR (by rw [hK, app_get]; rfl) rfl (by
        have k1 : K[H.length]? = some ⟨x.ver + 1, .arr [.int .u8 ((D.S.getD i zeroS).getD j 0)]⟩ := by rw [hK, app_get0]; rfl
        simp [firstA, loadA, cellsAt, k1]) rfl (by decide) hbl
      have el : (D.S.take i).flatten ++ (D.S.getD i zeroS).take j ++ [(D.S.getD i zeroS).getD j 0] = (D.S.take i).flatten ++ (D.S.getD i zeroS).take (j + 1) := by
        rw [List.append_assoc, List.take_add_one, List.getElem?_eq_getElem (by omega : j < (D.S.getD i zeroS).length), List.getD_eq_getElem?_getD (l := D.S.getD i zeroS), List.getElem?_eq_getElem (by omega : j < (D.S.getD i zeroS).length)]
        rfl
      rw [el] at ha
      have hR2 : BRow (H.length + 1) ⟨v, .arr (((D.S.take i).flatten ++ (D.S.getD i zeroS).take (j + 1)).map (V.int .u8))⟩ (.view (H.length + 1) v 0 ((D.S.take i).flatten ++ (D.S.getD i zeroS).take (j + 1)).length 1 none) ((D.S.take i).flatten ++ (D.S.getD i zeroS).take (j + 1)) :=
        brow_mk fun e => by
          have := congrArg List.length e
          simp only [List.length_append, List.length_take, List.length_nil] at this
          omega
      clear hR
      generalize D.S.flatten.map (V.int .u8) = F at *
      subst hK
      simp +contextual -implicitDefEqProofs (maxSteps := 10000000) only [sxb, plainD, stays, ↓selV_wt, ↓selV_wf, ↓impB_wt, ↓impB_wf, ↓selV_nor, ↓impB_nor, ↓selV_nt, ↓selV_nf, ↓impB_nt, ↓impB_nf, ↓selV_true, ↓selV_false, ↓selV_and, ↓impB_true, ↓impB_false, ↓impB_and, ↓prim_pick, ↓selV_nn, ↓impB_nn, doOp, get, ins, del, dels, Nat.reduceLT, Nat.reduceEqDiff, ↓reduceIte, reduceCtorEq, ne_eq, implies_true, prim, YLD, mkA, V.cells, Nat.reduceAdd, Nat.reduceSub, Nat.reduceMul, Nat.reduceLeDiff, loadA, cellsAt, nAg, packA, List.drop, List.take, List.head?, binA, unA, eqCells, eqCell, negB, fillA, storeA, Ob.with, indexedI, V.oneCell, intOf?, resA, resA1, packR, sealDepth, Int.reduceLT, Int.reduceLE, Int.reduceToNat, Int.reduceNeg, Int.reduceAdd, Int.reduceSub, Int.reduceMul, cond_true, cond_false, Int.reduceBNe, Int.reduceBEq, eq_self, deads, List.replicate, argsF, isNil, hr, hs, ercs, lenA, g2, iaddrSA, i0, i1, j0, j1, j1', fl, fa, le, Int.toNat_natCast, app_get0, app_get, app_set0, app_set, mkA, ha, w5, hj1, hjt, hlt]
      exact ⟨_, _, _, rfl, rfl, hR2⟩
    · have e8 : j = 64 := by omega
      subst e8
      have g2 : decide (((64 : Nat) : Int) < 64) = false := rfl
      rw [List.take_of_length_le (l := D.S.getD i zeroS) (by omega), ← take_flat_succ hlt] at hR
      simp +contextual -implicitDefEqProofs (maxSteps := 10000000) only [sxb, plainD, stays, ↓selV_wt, ↓selV_wf, ↓impB_wt, ↓impB_wf, ↓selV_nor, ↓impB_nor, ↓selV_nt, ↓selV_nf, ↓impB_nt, ↓impB_nf, ↓selV_true, ↓selV_false, ↓selV_and, ↓impB_true, ↓impB_false, ↓impB_and, ↓prim_pick, ↓selV_nn, ↓impB_nn, doOp, get, ins, del, dels, Nat.reduceLT, Nat.reduceEqDiff, ↓reduceIte, reduceCtorEq, ne_eq, implies_true, prim, YLD, mkA, V.cells, Nat.reduceAdd, Nat.reduceSub, Nat.reduceMul, Nat.reduceLeDiff, loadA, cellsAt, nAg, packA, List.drop, List.take, List.head?, binA, unA, eqCells, eqCell, negB, fillA, storeA, Ob.with, indexedI, V.oneCell, intOf?, resA, resA1, packR, sealDepth, Int.reduceLT, Int.reduceLE, Int.reduceToNat, Int.reduceNeg, Int.reduceAdd, Int.reduceSub, Int.reduceMul, cond_true, cond_false, Int.reduceBNe, Int.reduceBEq, eq_self, deads, List.replicate, argsF, isNil, g2, w4, hi1, hlt]
      exact ⟨W, x, y, rfl, rfl, hR⟩
  · have e8 : i = D.S.length := by omega
    subst e8
    rw [List.take_length] at hR
    have g1 : decide ((D.S.length : Int) < (D.S.length : Int)) = false := decide_eq_false (by omega)
    simp +contextual -implicitDefEqProofs (maxSteps := 10000000) only [sxb, plainD, stays, ↓selV_wt, ↓selV_wf, ↓impB_wt, ↓impB_wf, ↓selV_nor, ↓impB_nor, ↓selV_nt, ↓selV_nf, ↓impB_nt, ↓impB_nf, ↓selV_true, ↓selV_false, ↓selV_and, ↓impB_true, ↓impB_false, ↓impB_and, ↓prim_pick, ↓selV_nn, ↓impB_nn, doOp, get, ins, del, dels, Nat.reduceLT, Nat.reduceEqDiff, ↓reduceIte, reduceCtorEq, ne_eq, implies_true, prim, YLD, mkA, V.cells, Nat.reduceAdd, Nat.reduceSub, Nat.reduceMul, Nat.reduceLeDiff, loadA, cellsAt, nAg, packA, List.drop, List.take, List.head?, binA, unA, eqCells, eqCell, negB, fillA, storeA, Ob.with, indexedI, V.oneCell, intOf?, resA, resA1, packR, sealDepth, Int.reduceLT, Int.reduceLE, Int.reduceToNat, Int.reduceNeg, Int.reduceAdd, Int.reduceSub, Int.reduceMul, cond_true, cond_false, Int.reduceBNe, Int.reduceBEq, eq_self, deads, List.replicate, argsF, isNil, hr, ercs, lenA, g1, hW1]
    exact ⟨x, y, rfl, hR⟩
end Go.Am.T


set_option linter.unusedVariables false
set_option linter.unusedSimpArgs false
set_option maxRecDepth 10000
namespace Go.Am.T
attribute [local congr] selV_congr impB_congr
def badE (x : Int) : Bool := decide (x < 0) || decide (x > 2147483647)
theorem bad_spec {N n : Nat} (hn : 1 ≤ n) (x : Int) (H : Heap) : callA am N n 31 [.int .i64 x] H = some (.bool (badE x), H) := by
  obtain ⟨n, rfl⟩ : ∃ m, n = m + 1 := ⟨n - 1, by omega⟩
  refine call_pure at31 rfl rfl (by decide) rfl (sx_wp ?_)
  simp +contextual -implicitDefEqProofs (maxSteps := 10000000) only [sxb, plainD, stays, ↓selV_wt, ↓selV_wf, ↓impB_wt, ↓impB_wf, ↓selV_nor, ↓impB_nor, ↓selV_nt, ↓selV_nf, ↓impB_nt, ↓impB_nf, ↓selV_true, ↓selV_false, ↓selV_and, ↓impB_true, ↓impB_false, ↓impB_and, ↓prim_pick, ↓selV_nn, ↓impB_nn, doOp, get, ins, del, dels, Nat.reduceLT, Nat.reduceEqDiff, ↓reduceIte, reduceCtorEq, ne_eq, implies_true, prim, YLD, mkA, V.cells, Nat.reduceAdd, Nat.reduceSub, Nat.reduceMul, Nat.reduceLeDiff, loadA, cellsAt, nAg, packA, List.drop, List.take, List.head?, binA, unA, eqCells, eqCell, negB, fillA, storeA, Ob.with, indexedI, V.oneCell, intOf?, resA, resA1, packR, sealDepth, Int.reduceLT, Int.reduceLE, Int.reduceToNat, Int.reduceNeg, Int.reduceAdd, Int.reduceSub, Int.reduceMul, cond_true, cond_false, Int.reduceBNe, Int.reduceBEq, eq_self, deads, List.replicate, argsF, am31, isNil, badE]
theorem ints_at {k : IntKind} {A X : List Int} {i : Nat} (hi : i < A.length) : List.take 1 (List.drop i ((A ++ X).map (V.int k))) = [.int k A[i]] := by
  rw [← List.map_drop, List.drop_eq_getElem_cons (by simp; omega), List.getElem_append_left hi]
  rfl
theorem index_spec {N n : Nat} (hn : 2 ≤ n) {H : Heap} {o v : Nat} {cap : Option Nat} {A X : List Int} (ho : H[o]? = some ⟨v, .arr ((A ++ X).map (V.int .i64))⟩) (hA : A.length < N) (hA' : A.length ≤ 100000) :
    ∃ i : Int, callA am N n 58 [.view o v 0 A.length 1 cap, .func 31 [] []] H = some (.int .i64 i, H) ∧ decide (i ≥ 0) = A.any badE := by
  obtain ⟨n, rfl⟩ : ∃ m, n = m + 1 := ⟨n - 1, by omega⟩
  have c31 := fun x => @bad_spec N n (by omega) x H
  suffices Hs : ∃ W H', callA am N (n + 1) 58 [.view o v 0 A.length 1 cap, .func 31 [] []] H = some (W, H') ∧ H' = H ∧ ∃ i : Int, W = .int .i64 i ∧ decide (i ≥ 0) = A.any badE by
    obtain ⟨W, H', h1, rfl, i, rfl, h2⟩ := Hs
    exact ⟨i, h1, h2⟩
  refine call_keep at58 rfl rfl (by decide) (sx_wp ?_)
  simp +contextual -implicitDefEqProofs (maxSteps := 10000000) only [sxb, plainD, stays, ↓selV_wt, ↓selV_wf, ↓impB_wt, ↓impB_wf, ↓selV_nor, ↓impB_nor, ↓selV_nt, ↓selV_nf, ↓impB_nt, ↓impB_nf, ↓selV_true, ↓selV_false, ↓selV_and, ↓impB_true, ↓impB_false, ↓impB_and, ↓prim_pick, ↓selV_nn, ↓impB_nn, doOp, get, ins, del, dels, Nat.reduceLT, Nat.reduceEqDiff, ↓reduceIte, reduceCtorEq, ne_eq, implies_true, prim, YLD, mkA, V.cells, Nat.reduceAdd, Nat.reduceSub, Nat.reduceMul, Nat.reduceLeDiff, loadA, cellsAt, nAg, packA, List.drop, List.take, List.head?, binA, unA, eqCells, eqCell, negB, fillA, storeA, Ob.with, indexedI, V.oneCell, intOf?, resA, resA1, packR, sealDepth, Int.reduceLT, Int.reduceLE, Int.reduceToNat, Int.reduceNeg, Int.reduceAdd, Int.reduceSub, Int.reduceMul, cond_true, cond_false, Int.reduceBNe, Int.reduceBEq, eq_self, deads, List.replicate, argsF, am58, isNil, lenA, List.append_nil]
  refine sx_loop (fun i t K => i ≤ A.length ∧ K = H ∧ (A.take i).any badE = false ∧ t = fr 19 [(0, .view o v 0 A.length 1 cap), (1, .func 31 [] []), (7, .int .i64 A.length), (8, .int .i64 i)]) A.length hA ⟨Nat.zero_le _, rfl, rfl, rfl⟩ ?_
  rintro i t K hi ⟨hi', rfl, hp, rfl⟩
  have hl : ((A ++ X).map (V.int .i64)).length = A.length + X.length := by simp
  by_cases hlt : i < A.length
  · have g1 : decide ((i : Int) < (A.length : Int)) = true := decide_eq_true (by omega)
    have w4 : IntKind.i64.wrap ((i : Int) + 1) = ((i + 1 : Nat) : Int) := (wrap64 (by omega) (by omega)).trans (by omega)
    have i0 : (0 : Int) ≤ (i : Int) := by omega
    have i1 : (i : Int) < (A.length : Int) := by omega
    have fa := ints_at (k := .i64) (X := X) hlt
    have le : i + 1 ≤ A.length + X.length := by omega
    have hi1 : i + 1 ≤ A.length := by omega
    have hp2 : (A.take (i + 1)).any badE = badE A[i] := by
      rw [List.take_add_one, List.any_append, hp, List.getElem?_eq_getElem hlt]
      simp
    cases gb : badE A[i] with
    | true =>
      have c31' := c31 A[i]
      rw [gb] at c31'
      have he : A.any badE = true := List.any_eq_true.2 ⟨A[i], List.getElem_mem hlt, gb⟩
      simp +contextual -implicitDefEqProofs (maxSteps := 10000000) only [sxb, plainD, stays, ↓selV_wt, ↓selV_wf, ↓impB_wt, ↓impB_wf, ↓selV_nor, ↓impB_nor, ↓selV_nt, ↓selV_nf, ↓impB_nt, ↓impB_nf, ↓selV_true, ↓selV_false, ↓selV_and, ↓impB_true, ↓impB_false, ↓impB_and, ↓prim_pick, ↓selV_nn, ↓impB_nn, doOp, get, ins, del, dels, Nat.reduceLT, Nat.reduceEqDiff, ↓reduceIte, reduceCtorEq, ne_eq, implies_true, prim, YLD, mkA, V.cells, Nat.reduceAdd, Nat.reduceSub, Nat.reduceMul, Nat.reduceLeDiff, loadA, cellsAt, nAg, packA, List.drop, List.take, List.head?, binA, unA, eqCells, eqCell, negB, fillA, storeA, Ob.with, indexedI, V.oneCell, intOf?, resA, resA1, packR, sealDepth, Int.reduceLT, Int.reduceLE, Int.reduceToNat, Int.reduceNeg, Int.reduceAdd, Int.reduceSub, Int.reduceMul, cond_true, cond_false, Int.reduceBNe, Int.reduceBEq, eq_self, deads, List.replicate, argsF, g1, iaddrSA, i0, i1, ho, hl, fa, le, cvP_func (g := 31) (by decide), c31', Int.toNat_natCast, he]
      exact ⟨_, rfl, decide_eq_true (by omega)⟩
    | false =>
      have c31' := c31 A[i]
      rw [gb] at c31' hp2
      simp +contextual -implicitDefEqProofs (maxSteps := 10000000) only [sxb, plainD, stays, ↓selV_wt, ↓selV_wf, ↓impB_wt, ↓impB_wf, ↓selV_nor, ↓impB_nor, ↓selV_nt, ↓selV_nf, ↓impB_nt, ↓impB_nf, ↓selV_true, ↓selV_false, ↓selV_and, ↓impB_true, ↓impB_false, ↓impB_and, ↓prim_pick, ↓selV_nn, ↓impB_nn, doOp, get, ins, del, dels, Nat.reduceLT, Nat.reduceEqDiff, ↓reduceIte, reduceCtorEq, ne_eq, implies_true, prim, YLD, mkA, V.cells, Nat.reduceAdd, Nat.reduceSub, Nat.reduceMul, Nat.reduceLeDiff, loadA, cellsAt, nAg, packA, List.drop, List.take, List.head?, binA, unA, eqCells, eqCell, negB, fillA, storeA, Ob.with, indexedI, V.oneCell, intOf?, resA, resA1, packR, sealDepth, Int.reduceLT, Int.reduceLE, Int.reduceToNat, Int.reduceNeg, Int.reduceAdd, Int.reduceSub, Int.reduceMul, cond_true, cond_false, Int.reduceBNe, Int.reduceBEq, eq_self, deads, List.replicate, argsF, g1, iaddrSA, i0, i1, ho, hl, fa, le, cvP_func (g := 31) (by decide), c31', Int.toNat_natCast, w4, hp2, hlt, hi1]
  · have e8 : i = A.length := by omega
    subst e8
    rw [List.take_length] at hp
    have g1 : decide ((A.length : Int) < (A.length : Int)) = false := decide_eq_false (by omega)
    simp +contextual -implicitDefEqProofs (maxSteps := 10000000) only [sxb, plainD, stays, ↓selV_wt, ↓selV_wf, ↓impB_wt, ↓impB_wf, ↓selV_nor, ↓impB_nor, ↓selV_nt, ↓selV_nf, ↓impB_nt, ↓impB_nf, ↓selV_true, ↓selV_false, ↓selV_and, ↓impB_true, ↓impB_false, ↓impB_and, ↓prim_pick, ↓selV_nn, ↓impB_nn, doOp, get, ins, del, dels, Nat.reduceLT, Nat.reduceEqDiff, ↓reduceIte, reduceCtorEq, ne_eq, implies_true, prim, YLD, mkA, V.cells, Nat.reduceAdd, Nat.reduceSub, Nat.reduceMul, Nat.reduceLeDiff, loadA, cellsAt, nAg, packA, List.drop, List.take, List.head?, binA, unA, eqCells, eqCell, negB, fillA, storeA, Ob.with, indexedI, V.oneCell, intOf?, resA, resA1, packR, sealDepth, Int.reduceLT, Int.reduceLE, Int.reduceToNat, Int.reduceNeg, Int.reduceAdd, Int.reduceSub, Int.reduceMul, cond_true, cond_false, Int.reduceBNe, Int.reduceBEq, eq_self, deads, List.replicate, argsF, g1, hp]
    exact ⟨_, rfl, rfl⟩
theorem contains_spec {N n : Nat} (hn : 3 ≤ n) {H : Heap} {o v : Nat} {cap : Option Nat} {A X : List Int} (ho : H[o]? = some ⟨v, .arr ((A ++ X).map (V.int .i64))⟩) (hA : A.length < N) (hA' : A.length ≤ 100000) :
    callA am N n 30 [.view o v 0 A.length 1 cap, .func 31 [] []] H = some (.bool (A.any badE), H) := by
  obtain ⟨n, rfl⟩ : ∃ m, n = m + 1 := ⟨n - 1, by omega⟩
  obtain ⟨i, c58, hi⟩ := @index_spec N n (by omega) H o v cap A X ho hA hA'
  refine call_keep_eq at30 rfl rfl (by decide) (sx_wp ?_)
  simp +contextual -implicitDefEqProofs (maxSteps := 10000000) only [sxb, plainD, stays, ↓selV_wt, ↓selV_wf, ↓impB_wt, ↓impB_wf, ↓selV_nor, ↓impB_nor, ↓selV_nt, ↓selV_nf, ↓impB_nt, ↓impB_nf, ↓selV_true, ↓selV_false, ↓selV_and, ↓impB_true, ↓impB_false, ↓impB_and, ↓prim_pick, ↓selV_nn, ↓impB_nn, doOp, get, ins, del, dels, Nat.reduceLT, Nat.reduceEqDiff, ↓reduceIte, reduceCtorEq, ne_eq, implies_true, prim, YLD, mkA, V.cells, Nat.reduceAdd, Nat.reduceSub, Nat.reduceMul, Nat.reduceLeDiff, loadA, cellsAt, nAg, packA, List.drop, List.take, List.head?, binA, unA, eqCells, eqCell, negB, fillA, storeA, Ob.with, indexedI, V.oneCell, intOf?, resA, resA1, packR, sealDepth, Int.reduceLT, Int.reduceLE, Int.reduceToNat, Int.reduceNeg, Int.reduceAdd, Int.reduceSub, Int.reduceMul, cond_true, cond_false, Int.reduceBNe, Int.reduceBEq, eq_self, deads, List.replicate, argsF, am30, isNil, c58, hi, List.append_nil]
end Go.Am.T


set_option linter.unusedVariables false
set_option linter.unusedSimpArgs false
set_option maxRecDepth 10000
namespace Go.Am.T
attribute [local congr] selV_congr impB_congr
structure Rd (H : Heap) (x : V) (k : IntKind) (L : List Int) : Prop where
  len : lenA x = some L.length
  nstr : ∀ b, x ≠ .str b
  at_ : ∀ i, (h : i < L.length) → iaddrSA 1 x (.int .i64 (i : Nat)) = some (.ret (.iptr [.int k L[i]] 0)) ∨
    ∃ o v off cs, iaddrSA 1 x (.int .i64 (i : Nat)) = some (.ret (.ptr o v off)) ∧ H[o]? = some ⟨v, .arr cs⟩ ∧ off + 1 ≤ cs.length ∧ List.take 1 (List.drop off cs) = [.int k L[i]]
theorem Rd.of_view {H : Heap} {o v : Nat} {cap : Option Nat} {k : IntKind} {L X : List Int} (ho : H[o]? = some ⟨v, .arr ((L ++ X).map (V.int k))⟩) : Rd H (.view o v 0 L.length 1 cap) k L := by
  refine ⟨rfl, fun _ => V.noConfusion, fun i hi => .inr ⟨o, v, i, _, ?_, ho, by simp; omega, ints_at hi⟩⟩
  have h0 : (0 : Int) ≤ (i : Int) := by omega
  have h1 : (i : Int) < (L.length : Int) := by omega
  simp only [iaddrSA, indexedI, ↓reduceIte, h0, h1, Option.map_some, Int.toNat_natCast, Nat.mul_one, Nat.zero_add]
theorem Rd.app {H : Heap} {x : V} {k : IntKind} {L : List Int} (h : Rd H x k L) (l : Heap) : Rd (H ++ l) x k L := by
  refine ⟨h.len, h.nstr, fun i hi => ?_⟩
  rcases h.at_ i hi with q | ⟨o, v, off, cs, q1, q2, q3⟩
  · exact .inl q
  · exact .inr ⟨o, v, off, cs, q1, by rw [List.getElem?_append_left (lt_of_get q2)]; exact q2, q3⟩
def chunks (B : List Int) : List (List Int) := (List.range (B.length / 64)).map fun i => (B.drop (i * 64)).take 64
def ofOk (B Es : List Int) : Bool := (B.length % 64 == 0) && (newOk ((B.length / 64 : Nat) : Int) (Es.length : Int) && !Es.any badE)
def ofD (B Es : List Int) : Dv := ⟨chunks B, Es ++ List.replicate (8 - Es.length) 0, Es.length, false, 0, false, 0⟩
theorem chunks_sec {B : List Int} : ∀ s ∈ chunks B, s.length = 64 := fun s hs => by
  obtain ⟨i, hi, rfl⟩ := List.mem_map.1 hs
  have := List.mem_range.1 hi
  rw [List.length_take, List.length_drop]
  omega
theorem range_flat (B : List Int) : ∀ m, ((List.range m).map fun i => (B.drop (i * 64)).take 64).flatten = B.take (m * 64)
  | 0 => by simp
  | m + 1 => by
    rw [List.range_succ, List.map_append, List.flatten_append, range_flat B m, List.map_singleton, List.flatten_singleton, Nat.succ_mul, List.take_add]
theorem chunks_flat {B : List Int} (h : B.length % 64 = 0) : (chunks B).flatten = B := by
  rw [chunks, range_flat, List.take_of_length_le (by omega)]
theorem ofOk_true {B Es : List Int} (h : ofOk B Es = true) : B.length % 64 = 0 ∧ 1 ≤ B.length / 64 ∧ B.length / 64 ≤ 4096 ∧ 1 ≤ Es.length ∧ Es.length ≤ 8 ∧ Es.any badE = false := by
  simp only [ofOk, Bool.and_eq_true, beq_iff_eq, Bool.not_eq_true'] at h
  have := newOk_true h.2.1
  exact ⟨h.1, by omega, by omega, by omega, by omega, h.2.2⟩
theorem ofD_ok {B Es : List Int} (h : ofOk B Es = true) : (ofD B Es).Ok := by
  obtain ⟨h1, h2, h3, h4, h5, h6⟩ := ofOk_true h
  have hc : (chunks B).length = B.length / 64 := by simp [chunks]
  refine ⟨by simp [ofD]; omega, h4, h5, by show 1 ≤ (chunks B).length; omega, by show (chunks B).length ≤ 4096; omega, chunks_sec, fun h => (by cases h), (by decide : (0 : Int) ≤ _), fun i hi => ?_, fun e he => ?_⟩
  · show (Es ++ List.replicate (8 - Es.length) 0).getD i 0 = 0
    have hi : Es.length ≤ i := hi
    rw [List.getD_eq_getElem?_getD, List.getElem?_append_right hi, List.getElem?_replicate]
    split <;> rfl
  · rcases List.mem_append.1 he with he | he
    · have : badE e = false := by
        cases hb : badE e with
        | false => rfl
        | true => rw [List.any_eq_true.2 ⟨e, he, hb⟩] at h6; cases h6
      simp only [badE, Bool.or_eq_false_iff, decide_eq_false_iff_not] at this
      omega
    · rw [List.eq_of_mem_replicate he]
      exact ⟨Int.le_refl 0, by decide⟩
theorem ofD_eps {B Es : List Int} : (ofD B Es).eps = Es := by simp [Dv.eps, ofD]
theorem fill_step {k : IntKind} {B : List Int} {T i : Nat} (hi : i < B.length) (hT : B.length ≤ T) : setRange ((B.take i ++ List.replicate (T - i) 0).map (V.int k)) i [.int k B[i]] = (B.take (i + 1) ++ List.replicate (T - (i + 1)) 0).map (V.int k) := by
  have hl : ((B.take i).map (V.int k)).length = i := by simp; omega
  have e1 : T - i = T - (i + 1) + 1 := by omega
  have e2 : B.take (i + 1) = B.take i ++ [B[i]] := by rw [List.take_add_one, List.getElem?_eq_getElem hi]; rfl
  rw [e1, List.replicate_succ, e2, List.append_assoc]
  simp only [setRange, List.map_append, List.map_cons, List.map_nil, List.length_cons, List.length_nil, List.cons_append, List.nil_append]
  generalize (B.take i).map (V.int k) = A at hl ⊢
  subst hl
  rw [List.take_left', List.drop_append, List.drop_eq_nil_of_le (by omega), Nat.zero_add, Nat.add_sub_cancel_left]
  · simp
  · rfl
end Go.Am.T


set_option linter.unusedVariables false
set_option linter.unusedSimpArgs false
set_option maxRecDepth 10000
namespace Go.Am.T
attribute [local congr] selV_congr impB_congr
theorem iaddrS_v {o ver off len s : Nat} {cap : Option Nat} {i : Int} : iaddrSA s (.view o ver off len s cap) (.int .i64 i) = (indexedI len (.int .i64 i)).map fun i => .ret (.ptr o ver (off + i * s)) := by
  simp only [iaddrSA, ↓reduceIte]
set_option maxHeartbeats 2000000 in
theorem rof_spec {N n : Nat} (hN : 300000 < N) (hn : 2 ≤ n) {H : Heap} {x y : V} {B Es : List Int} (hx : Rd H x .u8 B) (hy : Rd H y .i64 Es) (hB : B.length ≤ 300000) (hE : Es.length ≤ 300000) :
    ∃ H', callA am N n 10 [x, y] H = some ((bif ofOk B Es then .ptr (H.length + 2) 1 0 else .nilp), H') ∧ H.length ≤ H'.length ∧ (∀ p, p < H.length → H'[p]? = H[p]?) ∧
      (ofOk B Es = true → RAt H' (H.length + 2) H.length (H.length + 1) (ofD B Es)) := by
  obtain ⟨n, rfl⟩ : ∃ m, n = m + 1 := ⟨n - 1, by omega⟩
  have lx := hx.len
  have ly := hy.len
  have nx := hx.nstr
  have ny := hy.nstr
  suffices Hs : ∃ W H', callA am N (n + 1) 10 [x, y] H = some (W, H') ∧ W = (bif ofOk B Es then .ptr (H.length + 2) 1 0 else .nilp) ∧ H.length ≤ H'.length ∧ (∀ p, p < H.length → H'[p]? = H[p]?) ∧
      (ofOk B Es = true → RAt H' (H.length + 2) H.length (H.length + 1) (ofD B Es)) by
    obtain ⟨W, H', h1, rfl, h2⟩ := Hs
    exact ⟨H', h1, h2⟩
  have em : Int.tmod (B.length : Int) 64 = ((B.length % 64 : Nat) : Int) := by rw [Int.tmod_eq_emod_of_nonneg (by omega)]; omega
  have eq : Int.tdiv (B.length : Int) 64 = ((B.length / 64 : Nat) : Int) := by rw [Int.tdiv_eq_ediv_of_nonneg (by omega)]; omega
  have if64 : ∀ a b : Option V, (if (64 : Int) = 0 then a else b) = b := fun a b => if_neg (by decide)
  have wq : IntKind.i64.wrap ((B.length / 64 : Nat) : Int) = ((B.length / 64 : Nat) : Int) := wrap64 (by omega) (by omega)
  by_cases hm : B.length % 64 = 0
  · have gm : (((B.length % 64 : Nat) : Int) != 0) = false := by rw [hm]; rfl
    obtain ⟨H1, c14, h1l, h1k, h1r⟩ := @rnew_spec N n (by omega) ((B.length / 64 : Nat) : Int) (Es.length : Int) H
    cases gn : newOk ((B.length / 64 : Nat) : Int) (Es.length : Int) with
    | false =>
      rw [gn] at c14
      have go : ofOk B Es = false := by rw [ofOk, gn]; simp
      refine call_keep at10 rfl rfl (by decide) (sx_wp ?_)
      simp +contextual -implicitDefEqProofs (maxSteps := 10000000) only [sxb, plainD, stays, ↓selV_wt, ↓selV_wf, ↓impB_wt, ↓impB_wf, ↓selV_nor, ↓impB_nor, ↓selV_nt, ↓selV_nf, ↓impB_nt, ↓impB_nf, ↓selV_true, ↓selV_false, ↓selV_and, ↓impB_true, ↓impB_false, ↓impB_and, ↓prim_pick, ↓selV_nn, ↓impB_nn, doOp, get, ins, del, dels, Nat.reduceLT, Nat.reduceEqDiff, ↓reduceIte, reduceCtorEq, ne_eq, implies_true, prim, YLD, mkA, V.cells, Nat.reduceAdd, Nat.reduceSub, Nat.reduceMul, Nat.reduceLeDiff, loadA, cellsAt, nAg, packA, List.drop, List.take, List.head?, binA, unA, eqCells, eqCell, negB, fillA, storeA, Ob.with, indexedI, V.oneCell, intOf?, resA, resA1, packR, sealDepth, Int.reduceLT, Int.reduceLE, Int.reduceToNat, Int.reduceNeg, Int.reduceAdd, Int.reduceSub, Int.reduceMul, cond_true, cond_false, Int.reduceBNe, Int.reduceBEq, eq_self, deads, List.replicate, argsF, am10, if64, isNil, lx, ly, em, eq, wq, gm, c14, List.append_nil]
      refine sx_unroll 1 (by show 1 ≤ N; omega) ?_
      simp +contextual -implicitDefEqProofs (maxSteps := 10000000) only [sxb, plainD, stays, ↓selV_wt, ↓selV_wf, ↓impB_wt, ↓impB_wf, ↓selV_nor, ↓impB_nor, ↓selV_nt, ↓selV_nf, ↓impB_nt, ↓impB_nf, ↓selV_true, ↓selV_false, ↓selV_and, ↓impB_true, ↓impB_false, ↓impB_and, ↓prim_pick, ↓selV_nn, ↓impB_nn, doOp, get, ins, del, dels, Nat.reduceLT, Nat.reduceEqDiff, ↓reduceIte, reduceCtorEq, ne_eq, implies_true, prim, YLD, mkA, V.cells, Nat.reduceAdd, Nat.reduceSub, Nat.reduceMul, Nat.reduceLeDiff, loadA, cellsAt, nAg, packA, List.drop, List.take, List.head?, binA, unA, eqCells, eqCell, negB, fillA, storeA, Ob.with, indexedI, V.oneCell, intOf?, resA, resA1, packR, sealDepth, Int.reduceLT, Int.reduceLE, Int.reduceToNat, Int.reduceNeg, Int.reduceAdd, Int.reduceSub, Int.reduceMul, cond_true, cond_false, Int.reduceBNe, Int.reduceBEq, eq_self, deads, List.replicate, argsF, isNil]
      refine sx_unroll 1 (by show 1 ≤ N; omega) ?_
      simp +contextual -implicitDefEqProofs (maxSteps := 10000000) only [sxb, plainD, stays, ↓selV_wt, ↓selV_wf, ↓impB_wt, ↓impB_wf, ↓selV_nor, ↓impB_nor, ↓selV_nt, ↓selV_nf, ↓impB_nt, ↓impB_nf, ↓selV_true, ↓selV_false, ↓selV_and, ↓impB_true, ↓impB_false, ↓impB_and, ↓prim_pick, ↓selV_nn, ↓impB_nn, doOp, get, ins, del, dels, Nat.reduceLT, Nat.reduceEqDiff, ↓reduceIte, reduceCtorEq, ne_eq, implies_true, prim, YLD, mkA, V.cells, Nat.reduceAdd, Nat.reduceSub, Nat.reduceMul, Nat.reduceLeDiff, loadA, cellsAt, nAg, packA, List.drop, List.take, List.head?, binA, unA, eqCells, eqCell, negB, fillA, storeA, Ob.with, indexedI, V.oneCell, intOf?, resA, resA1, packR, sealDepth, Int.reduceLT, Int.reduceLE, Int.reduceToNat, Int.reduceNeg, Int.reduceAdd, Int.reduceSub, Int.reduceMul, cond_true, cond_false, Int.reduceBNe, Int.reduceBEq, eq_self, deads, List.replicate, argsF, isNil, go]
      exact ⟨by omega, h1k⟩
    | true =>
      obtain ⟨n1, n2, n3, n4⟩ := newOk_true gn
      obtain ⟨-, h1e⟩ := h1r gn
      rw [gn] at c14
      simp only [cond_true] at c14
      rw [newD_flat, newD_eps (by omega), Int.toNat_natCast, Int.toNat_natCast] at h1e
      have e64 : B.length / 64 * 64 = B.length := by omega
      rw [e64] at h1e
      obtain ⟨R0, hR0⟩ : ∃ R0 : List V, R0 = [.view H.length 1 0 (B.length / 64) 64 (some (B.length / 64)), .view (H.length + 1) 1 0 Es.length 1 (some Es.length), .int .i64 (-1), .bool false, .int .i64 0] := ⟨_, rfl⟩
      have h1e : H1 = H ++ [⟨1, .arr ((List.replicate B.length 0).map (V.int .u8))⟩, ⟨1, .arr ((List.replicate Es.length 0).map (V.int .i64))⟩, ⟨1, .var R0⟩] := by rw [h1e, hR0]; rfl
      subst h1e
      refine call_keep at10 rfl rfl (by decide) (sx_wp ?_)
      simp +contextual -implicitDefEqProofs (maxSteps := 10000000) only [sxb, plainD, stays, ↓selV_wt, ↓selV_wf, ↓impB_wt, ↓impB_wf, ↓selV_nor, ↓impB_nor, ↓selV_nt, ↓selV_nf, ↓impB_nt, ↓impB_nf, ↓selV_true, ↓selV_false, ↓selV_and, ↓impB_true, ↓impB_false, ↓impB_and, ↓prim_pick, ↓selV_nn, ↓impB_nn, doOp, get, ins, del, dels, Nat.reduceLT, Nat.reduceEqDiff, ↓reduceIte, reduceCtorEq, ne_eq, implies_true, prim, YLD, mkA, V.cells, Nat.reduceAdd, Nat.reduceSub, Nat.reduceMul, Nat.reduceLeDiff, loadA, cellsAt, nAg, packA, List.drop, List.take, List.head?, binA, unA, eqCells, eqCell, negB, fillA, storeA, Ob.with, indexedI, V.oneCell, intOf?, resA, resA1, packR, sealDepth, Int.reduceLT, Int.reduceLE, Int.reduceToNat, Int.reduceNeg, Int.reduceAdd, Int.reduceSub, Int.reduceMul, cond_true, cond_false, Int.reduceBNe, Int.reduceBEq, eq_self, deads, List.replicate, argsF, am10, if64, isNil, lx, ly, em, eq, wq, gm, c14, List.append_nil]
      refine sx_loop (fun i t K => i ≤ Es.length ∧ (Es.take i).any badE = false ∧ t = fr 75 [(0, x), (1, y), (5, .ptr (H.length + 2) 1 0), (6, .int .i64 i)] ∧
        K = H ++ [⟨1, .arr ((List.replicate B.length 0).map (V.int .u8))⟩, ⟨1, .arr ((Es.take i ++ List.replicate (Es.length - i) 0).map (V.int .i64))⟩, ⟨1, .var R0⟩]) Es.length (by show Es.length < N; omega) ⟨Nat.zero_le _, rfl, rfl, rfl⟩ ?_
      rintro i t K hi ⟨hi', hp, rfl, rfl⟩
      by_cases hlt : i < Es.length
      · have g1 : decide ((i : Int) < (Es.length : Int)) = true := decide_eq_true (by omega)
        have w4 : IntKind.i64.wrap ((i : Int) + 1) = ((i + 1 : Nat) : Int) := (wrap64 (by omega) (by omega)).trans (by omega)
        have i0 : (0 : Int) ≤ (i : Int) := by omega
        have i1 : (i : Int) < (Es.length : Int) := by omega
        have hi1 : i + 1 ≤ Es.length := by omega
        have q := (hy.app [⟨1, .arr ((List.replicate B.length 0).map (V.int .u8))⟩, ⟨1, .arr ((Es.take i ++ List.replicate (Es.length - i) 0).map (V.int .i64))⟩, ⟨1, .var R0⟩]).at_ i hlt
        have hp2 : (Es.take (i + 1)).any badE = badE Es[i] := by
          rw [List.take_add_one, List.any_append, hp, List.getElem?_eq_getElem hlt]
          simp
        have fs := fill_step (k := .i64) hlt (Nat.le_refl _)
        have el : ((Es.take i ++ List.replicate (Es.length - i) 0).map (V.int .i64)).length = Es.length := by simp; omega
        generalize (List.replicate B.length (0 : Int)).map (V.int .u8) = F at *
        generalize (Es.take i ++ List.replicate (Es.length - i) 0).map (V.int .i64) = Ei at *
        have gb' : (decide (Es[i] < 0) || decide (Es[i] > 2147483647)) = badE Es[i] := rfl
        cases gb : badE Es[i] with
        | true =>
          rw [gb] at gb'
          have go : ofOk B Es = false := by
            have : Es.any badE = true := List.any_eq_true.2 ⟨_, List.getElem_mem hlt, gb⟩
            simp [ofOk, this]
          rcases q with q1 | ⟨o, v, off, cs, q1, q2, q3, q4⟩
          · simp +contextual -implicitDefEqProofs (maxSteps := 10000000) only [sxb, plainD, stays, ↓selV_wt, ↓selV_wf, ↓impB_wt, ↓impB_wf, ↓selV_nor, ↓impB_nor, ↓selV_nt, ↓selV_nf, ↓impB_nt, ↓impB_nf, ↓selV_true, ↓selV_false, ↓selV_and, ↓impB_true, ↓impB_false, ↓impB_and, ↓prim_pick, ↓selV_nn, ↓impB_nn, doOp, get, ins, del, dels, Nat.reduceLT, Nat.reduceEqDiff, ↓reduceIte, reduceCtorEq, ne_eq, implies_true, prim, YLD, mkA, V.cells, Nat.reduceAdd, Nat.reduceSub, Nat.reduceMul, Nat.reduceLeDiff, loadA, cellsAt, nAg, packA, List.drop, List.take, List.head?, binA, unA, eqCells, eqCell, negB, fillA, storeA, Ob.with, indexedI, V.oneCell, intOf?, resA, resA1, packR, sealDepth, Int.reduceLT, Int.reduceLE, Int.reduceToNat, Int.reduceNeg, Int.reduceAdd, Int.reduceSub, Int.reduceMul, cond_true, cond_false, Int.reduceBNe, Int.reduceBEq, eq_self, deads, List.replicate, argsF, isNil, ly, g1, q1, gb', go]
            exact ⟨by simp, fun p hp => List.getElem?_append_left hp⟩
          · simp +contextual -implicitDefEqProofs (maxSteps := 10000000) only [sxb, plainD, stays, ↓selV_wt, ↓selV_wf, ↓impB_wt, ↓impB_wf, ↓selV_nor, ↓impB_nor, ↓selV_nt, ↓selV_nf, ↓impB_nt, ↓impB_nf, ↓selV_true, ↓selV_false, ↓selV_and, ↓impB_true, ↓impB_false, ↓impB_and, ↓prim_pick, ↓selV_nn, ↓impB_nn, doOp, get, ins, del, dels, Nat.reduceLT, Nat.reduceEqDiff, ↓reduceIte, reduceCtorEq, ne_eq, implies_true, prim, YLD, mkA, V.cells, Nat.reduceAdd, Nat.reduceSub, Nat.reduceMul, Nat.reduceLeDiff, loadA, cellsAt, nAg, packA, List.drop, List.take, List.head?, binA, unA, eqCells, eqCell, negB, fillA, storeA, Ob.with, indexedI, V.oneCell, intOf?, resA, resA1, packR, sealDepth, Int.reduceLT, Int.reduceLE, Int.reduceToNat, Int.reduceNeg, Int.reduceAdd, Int.reduceSub, Int.reduceMul, cond_true, cond_false, Int.reduceBNe, Int.reduceBEq, eq_self, deads, List.replicate, argsF, isNil, ly, g1, q1, q2, q3, q4, gb', go]
            exact ⟨by simp, fun p hp => List.getElem?_append_left hp⟩
        | false =>
          rw [gb] at gb' hp2
          rcases q with q1 | ⟨o, v, off, cs, q1, q2, q3, q4⟩
          · simp +contextual -implicitDefEqProofs (maxSteps := 10000000) only [sxb, plainD, stays, ↓selV_wt, ↓selV_wf, ↓impB_wt, ↓impB_wf, ↓selV_nor, ↓impB_nor, ↓selV_nt, ↓selV_nf, ↓impB_nt, ↓impB_nf, ↓selV_true, ↓selV_false, ↓selV_and, ↓impB_true, ↓impB_false, ↓impB_and, ↓prim_pick, ↓selV_nn, ↓impB_nn, doOp, get, ins, del, dels, Nat.reduceLT, Nat.reduceEqDiff, ↓reduceIte, reduceCtorEq, ne_eq, implies_true, prim, YLD, mkA, V.cells, Nat.reduceAdd, Nat.reduceSub, Nat.reduceMul, Nat.reduceLeDiff, loadA, cellsAt, nAg, packA, List.drop, List.take, List.head?, binA, unA, eqCells, eqCell, negB, fillA, storeA, Ob.with, indexedI, V.oneCell, intOf?, resA, resA1, packR, sealDepth, Int.reduceLT, Int.reduceLE, Int.reduceToNat, Int.reduceNeg, Int.reduceAdd, Int.reduceSub, Int.reduceMul, cond_true, cond_false, Int.reduceBNe, Int.reduceBEq, eq_self, deads, List.replicate, argsF, isNil, ly, g1, q1, gb', app_get0, app_get, app_set0, app_set, hR0, iaddrS_v, i0, i1, el, hi1, fs, Int.toNat_natCast, w4, hp2, hlt]
          · rw [hR0] at q2
            simp +contextual -implicitDefEqProofs (maxSteps := 10000000) only [sxb, plainD, stays, ↓selV_wt, ↓selV_wf, ↓impB_wt, ↓impB_wf, ↓selV_nor, ↓impB_nor, ↓selV_nt, ↓selV_nf, ↓impB_nt, ↓impB_nf, ↓selV_true, ↓selV_false, ↓selV_and, ↓impB_true, ↓impB_false, ↓impB_and, ↓prim_pick, ↓selV_nn, ↓impB_nn, doOp, get, ins, del, dels, Nat.reduceLT, Nat.reduceEqDiff, ↓reduceIte, reduceCtorEq, ne_eq, implies_true, prim, YLD, mkA, V.cells, Nat.reduceAdd, Nat.reduceSub, Nat.reduceMul, Nat.reduceLeDiff, loadA, cellsAt, nAg, packA, List.drop, List.take, List.head?, binA, unA, eqCells, eqCell, negB, fillA, storeA, Ob.with, indexedI, V.oneCell, intOf?, resA, resA1, packR, sealDepth, Int.reduceLT, Int.reduceLE, Int.reduceToNat, Int.reduceNeg, Int.reduceAdd, Int.reduceSub, Int.reduceMul, cond_true, cond_false, Int.reduceBNe, Int.reduceBEq, eq_self, deads, List.replicate, argsF, isNil, ly, g1, q1, q2, q3, q4, gb', app_get0, app_get, app_set0, app_set, hR0, iaddrS_v, i0, i1, el, hi1, fs, Int.toNat_natCast, w4, hp2, hlt]
      · have e8 : i = Es.length := by omega
        subst e8
        have hbad : Es.any badE = false := by rw [List.take_length] at hp; exact hp
        have go : ofOk B Es = true := by rw [ofOk, gn, hm, hbad]; rfl
        have g1 : decide ((Es.length : Int) < (Es.length : Int)) = false := decide_eq_false (by omega)
        have eE : Es.take Es.length ++ List.replicate (Es.length - Es.length) 0 = Es := by rw [List.take_length, Nat.sub_self]; simp
        rw [eE]
        simp +contextual -implicitDefEqProofs (maxSteps := 10000000) only [sxb, plainD, stays, ↓selV_wt, ↓selV_wf, ↓impB_wt, ↓impB_wf, ↓selV_nor, ↓impB_nor, ↓selV_nt, ↓selV_nf, ↓impB_nt, ↓impB_nf, ↓selV_true, ↓selV_false, ↓selV_and, ↓impB_true, ↓impB_false, ↓impB_and, ↓prim_pick, ↓selV_nn, ↓impB_nn, doOp, get, ins, del, dels, Nat.reduceLT, Nat.reduceEqDiff, ↓reduceIte, reduceCtorEq, ne_eq, implies_true, prim, YLD, mkA, V.cells, Nat.reduceAdd, Nat.reduceSub, Nat.reduceMul, Nat.reduceLeDiff, loadA, cellsAt, nAg, packA, List.drop, List.take, List.head?, binA, unA, eqCells, eqCell, negB, fillA, storeA, Ob.with, indexedI, V.oneCell, intOf?, resA, resA1, packR, sealDepth, Int.reduceLT, Int.reduceLE, Int.reduceToNat, Int.reduceNeg, Int.reduceAdd, Int.reduceSub, Int.reduceMul, cond_true, cond_false, Int.reduceBNe, Int.reduceBEq, eq_self, deads, List.replicate, argsF, isNil, ly, g1]
        refine sx_loop (fun i t K => i ≤ B.length ∧ t = fr 75 [(0, x), (5, .ptr (H.length + 2) 1 0), (7, .int .i64 i)] ∧
          K = H ++ [⟨1, .arr ((B.take i ++ List.replicate (B.length - i) 0).map (V.int .u8))⟩, ⟨1, .arr (Es.map (V.int .i64))⟩, ⟨1, .var R0⟩]) B.length (by show B.length < N; omega) ⟨Nat.zero_le _, rfl, rfl⟩ ?_
        rintro i t K hi ⟨hi', rfl, rfl⟩
        by_cases hlt : i < B.length
        · have g1 : decide ((i : Int) < (B.length : Int)) = true := decide_eq_true (by omega)
          have w4 : IntKind.i64.wrap ((i : Int) + 1) = ((i + 1 : Nat) : Int) := (wrap64 (by omega) (by omega)).trans (by omega)
          have hi1 : i + 1 ≤ B.length := by omega
          have m1 : Int.tmod (i : Int) 64 = ((i % 64 : Nat) : Int) := by rw [Int.tmod_eq_emod_of_nonneg (by omega)]; omega
          have d1 : Int.tdiv (i : Int) 64 = ((i / 64 : Nat) : Int) := by rw [Int.tdiv_eq_ediv_of_nonneg (by omega)]; omega
          have wd : IntKind.i64.wrap ((i / 64 : Nat) : Int) = ((i / 64 : Nat) : Int) := wrap64 (by omega) (by omega)
          have i0 : (0 : Int) ≤ ((i / 64 : Nat) : Int) := by omega
          have i1 : ((i / 64 : Nat) : Int) < ((B.length / 64 : Nat) : Int) := by omega
          have j0 : (0 : Int) ≤ ((i % 64 : Nat) : Int) := by omega
          have j1 : ((i % 64 : Nat) : Int) < 64 := by omega
          have eo : i / 64 * 64 + i % 64 = i := by omega
          have q := (hx.app [⟨1, .arr ((B.take i ++ List.replicate (B.length - i) 0).map (V.int .u8))⟩, ⟨1, .arr (Es.map (V.int .i64))⟩, ⟨1, .var R0⟩]).at_ i hlt
          have fs := fill_step (k := .u8) hlt (Nat.le_refl _)
          have el : ((B.take i ++ List.replicate (B.length - i) 0).map (V.int .u8)).length = B.length := by simp; omega
          generalize (Es.map (V.int .i64)) = F at *
          generalize (B.take i ++ List.replicate (B.length - i) 0).map (V.int .u8) = Ei at *
          rcases q with q1 | ⟨o, v, off, cs, q1, q2, q3, q4⟩
          · simp +contextual -implicitDefEqProofs (maxSteps := 10000000) only [sxb, plainD, stays, ↓selV_wt, ↓selV_wf, ↓impB_wt, ↓impB_wf, ↓selV_nor, ↓impB_nor, ↓selV_nt, ↓selV_nf, ↓impB_nt, ↓impB_nf, ↓selV_true, ↓selV_false, ↓selV_and, ↓impB_true, ↓impB_false, ↓impB_and, ↓prim_pick, ↓selV_nn, ↓impB_nn, doOp, get, ins, del, dels, Nat.reduceLT, Nat.reduceEqDiff, ↓reduceIte, reduceCtorEq, ne_eq, implies_true, prim, YLD, mkA, V.cells, Nat.reduceAdd, Nat.reduceSub, Nat.reduceMul, Nat.reduceLeDiff, loadA, cellsAt, nAg, packA, List.drop, List.take, List.head?, binA, unA, eqCells, eqCell, negB, fillA, storeA, Ob.with, indexedI, V.oneCell, intOf?, resA, resA1, packR, sealDepth, Int.reduceLT, Int.reduceLE, Int.reduceToNat, Int.reduceNeg, Int.reduceAdd, Int.reduceSub, Int.reduceMul, cond_true, cond_false, Int.reduceBNe, Int.reduceBEq, eq_self, deads, List.replicate, argsF, isNil, lx, g1, q1, m1, d1, wd, if64, app_get0, app_get, app_set0, app_set, hR0, iaddrS_v, i0, i1, j0, j1, eo, el, hi1, fs, Int.toNat_natCast, w4, hlt]
          · rw [hR0] at q2
            simp +contextual -implicitDefEqProofs (maxSteps := 10000000) only [sxb, plainD, stays, ↓selV_wt, ↓selV_wf, ↓impB_wt, ↓impB_wf, ↓selV_nor, ↓impB_nor, ↓selV_nt, ↓selV_nf, ↓impB_nt, ↓impB_nf, ↓selV_true, ↓selV_false, ↓selV_and, ↓impB_true, ↓impB_false, ↓impB_and, ↓prim_pick, ↓selV_nn, ↓impB_nn, doOp, get, ins, del, dels, Nat.reduceLT, Nat.reduceEqDiff, ↓reduceIte, reduceCtorEq, ne_eq, implies_true, prim, YLD, mkA, V.cells, Nat.reduceAdd, Nat.reduceSub, Nat.reduceMul, Nat.reduceLeDiff, loadA, cellsAt, nAg, packA, List.drop, List.take, List.head?, binA, unA, eqCells, eqCell, negB, fillA, storeA, Ob.with, indexedI, V.oneCell, intOf?, resA, resA1, packR, sealDepth, Int.reduceLT, Int.reduceLE, Int.reduceToNat, Int.reduceNeg, Int.reduceAdd, Int.reduceSub, Int.reduceMul, cond_true, cond_false, Int.reduceBNe, Int.reduceBEq, eq_self, deads, List.replicate, argsF, isNil, lx, g1, q1, q2, q3, q4, m1, d1, wd, if64, app_get0, app_get, app_set0, app_set, hR0, iaddrS_v, i0, i1, j0, j1, eo, el, hi1, fs, Int.toNat_natCast, w4, hlt]
        · have e8 : i = B.length := by omega
          subst e8
          have g1 : decide ((B.length : Int) < (B.length : Int)) = false := decide_eq_false (by omega)
          have eB : B.take B.length ++ List.replicate (B.length - B.length) 0 = B := by rw [List.take_length, Nat.sub_self]; simp
          rw [eB]
          simp +contextual -implicitDefEqProofs (maxSteps := 10000000) only [sxb, plainD, stays, ↓selV_wt, ↓selV_wf, ↓impB_wt, ↓impB_wf, ↓selV_nor, ↓impB_nor, ↓selV_nt, ↓selV_nf, ↓impB_nt, ↓impB_nf, ↓selV_true, ↓selV_false, ↓selV_and, ↓impB_true, ↓impB_false, ↓impB_and, ↓prim_pick, ↓selV_nn, ↓impB_nn, doOp, get, ins, del, dels, Nat.reduceLT, Nat.reduceEqDiff, ↓reduceIte, reduceCtorEq, ne_eq, implies_true, prim, YLD, mkA, V.cells, Nat.reduceAdd, Nat.reduceSub, Nat.reduceMul, Nat.reduceLeDiff, loadA, cellsAt, nAg, packA, List.drop, List.take, List.head?, binA, unA, eqCells, eqCell, negB, fillA, storeA, Ob.with, indexedI, V.oneCell, intOf?, resA, resA1, packR, sealDepth, Int.reduceLT, Int.reduceLE, Int.reduceToNat, Int.reduceNeg, Int.reduceAdd, Int.reduceSub, Int.reduceMul, cond_true, cond_false, Int.reduceBNe, Int.reduceBEq, eq_self, deads, List.replicate, argsF, isNil, lx, g1, go]
          refine ⟨by simp, fun p hp => List.getElem?_append_left hp, ?_⟩
          have hc : (chunks B).length = B.length / 64 := by simp [chunks]
          refine ⟨ofD_ok go, ⟨1, some (B.length / 64), 1, some Es.length, ?_, ?_, ?_⟩, by omega, by omega, by omega⟩
          · rw [app_get, hR0, show (ofD B Es).S.length = B.length / 64 from hc]; rfl
          · rw [app_get0, show (ofD B Es).S.flatten = B from chunks_flat hm]; rfl
          · rw [app_get, ofD_eps]; rfl
  · have gm : (((B.length % 64 : Nat) : Int) != 0) = true := by simp; omega
    have go : ofOk B Es = false := by simp [ofOk, hm]
    refine call_keep at10 rfl rfl (by decide) (sx_wp ?_)
    simp +contextual -implicitDefEqProofs (maxSteps := 10000000) only [sxb, plainD, stays, ↓selV_wt, ↓selV_wf, ↓impB_wt, ↓impB_wf, ↓selV_nor, ↓impB_nor, ↓selV_nt, ↓selV_nf, ↓impB_nt, ↓impB_nf, ↓selV_true, ↓selV_false, ↓selV_and, ↓impB_true, ↓impB_false, ↓impB_and, ↓prim_pick, ↓selV_nn, ↓impB_nn, doOp, get, ins, del, dels, Nat.reduceLT, Nat.reduceEqDiff, ↓reduceIte, reduceCtorEq, ne_eq, implies_true, prim, YLD, mkA, V.cells, Nat.reduceAdd, Nat.reduceSub, Nat.reduceMul, Nat.reduceLeDiff, loadA, cellsAt, nAg, packA, List.drop, List.take, List.head?, binA, unA, eqCells, eqCell, negB, fillA, storeA, Ob.with, indexedI, V.oneCell, intOf?, resA, resA1, packR, sealDepth, Int.reduceLT, Int.reduceLE, Int.reduceToNat, Int.reduceNeg, Int.reduceAdd, Int.reduceSub, Int.reduceMul, cond_true, cond_false, Int.reduceBNe, Int.reduceBEq, eq_self, deads, List.replicate, argsF, am10, if64, isNil, lx, em, gm, List.append_nil, go]
end Go.Am.T

