import Derived.Test.YtifbkofianklaaaK1
import Derived.Calls
import Derived.Carry
import Derived.ChangeShapes
import Derived.KernelRfl
import Derived.OpenShut
set_option linter.unusedVariables false
set_option linter.unusedSimpArgs false
namespace Go.Am
def get : List (Nat × V) → Nat → V
  | [], _ => .junk
  | (j, v) :: l, i => if i = j then v else get l i
def ins (i : Nat) (x : V) : List (Nat × V) → List (Nat × V)
  | [] => [(i, x)]
  | (j, v) :: l => if i = j then (i, x) :: l else if i < j then (i, x) :: (j, v) :: l else (j, v) :: ins i x l
def del (i : Nat) : List (Nat × V) → List (Nat × V)
  | [] => []
  | (j, v) :: l => if i = j then del i l else (j, v) :: del i l
def dels (is : List Nat) (l : List (Nat × V)) : List (Nat × V) := match is with | [] => l | i :: is => dels is (del i l)
def fr (n : Nat) (l : List (Nat × V)) : List V := (List.range n).map (get l)
def argsF : Nat → List V → List (Nat × V)
  | _, [] => []
  | i, v :: l => (i, v) :: argsF (i + 1) l
theorem fr_length (n : Nat) (l : List (Nat × V)) : (fr n l).length = n := by simp [fr]
theorem fr_getD {n : Nat} {l : List (Nat × V)} {i : Nat} (h : i < n) : (fr n l).getD i .junk = get l i := by
  simp [fr, List.getD_eq_getElem?_getD, h]
theorem fr_get? {n : Nat} {l : List (Nat × V)} {i : Nat} (h : i < n) : (fr n l)[i]? = some (get l i) := by
  simp [fr, h]
theorem get_ins (i : Nat) (x : V) (j : Nat) : ∀ (l : List (Nat × V)), get (ins i x l) j = if j = i then x else get l j
  | [] => by simp [ins, get]
  | (k, v) :: l => by
    unfold ins
    split
    · rename_i h
      subst h
      simp only [get]
      split <;> rfl
    · split
      · simp only [get]
      · rename_i h1 h2
        simp only [get, get_ins i x j l]
        by_cases e : j = k
        · subst e
          rw [if_pos rfl, if_neg (fun e => h1 e.symm), if_pos rfl]
        · rw [if_neg e, if_neg e]
theorem get_del (i j : Nat) : ∀ (l : List (Nat × V)), get (del i l) j = if j = i then .junk else get l j
  | [] => by simp [del, get]
  | (k, v) :: l => by
    unfold del
    split
    · rename_i h
      subst h
      rw [get_del i j l]
      simp only [get]
      split <;> rfl
    · rename_i h1
      simp only [get, get_del i j l]
      by_cases e : j = k
      · subst e
        rw [if_pos rfl, if_neg (fun e => h1 e.symm), if_pos rfl]
      · rw [if_neg e, if_neg e]
theorem fr_set (n : Nat) (l : List (Nat × V)) (i : Nat) (x : V) : (fr n l).set i x = fr n (ins i x l) := by
  apply List.ext_getElem?
  intro j
  rcases Nat.lt_or_ge j n with h | h
  · rw [fr_get? h, get_ins]
    by_cases e : j = i
    · subst e
      rw [if_pos rfl, List.getElem?_set_self (by rw [fr_length]; exact h)]
    · rw [if_neg e, List.getElem?_set_ne (Ne.symm e), fr_get? h]
  · rw [List.getElem?_eq_none (by rw [List.length_set, fr_length]; exact h), List.getElem?_eq_none (by rw [fr_length]; exact h)]
theorem fr_del (n : Nat) (l : List (Nat × V)) (i : Nat) : (fr n l).set i .junk = fr n (del i l) := by
  rw [fr_set]
  unfold fr
  apply List.map_congr_left
  intro j _
  rw [get_ins, get_del]
theorem fr_clear (n : Nat) : ∀ (is : List Nat) (l : List (Nat × V)), clear is (fr n l) = fr n (dels is l)
  | [], l => rfl
  | i :: is, l => by
    have : clear (i :: is) (fr n l) = clear is ((fr n l).set i .junk) := rfl
    rw [this, fr_del, fr_clear n is]
    rfl
theorem get_argsF : ∀ (l : List V) (k i : Nat), get (argsF k l) i = if i < k then .junk else l.getD (i - k) .junk
  | [], k, i => by simp [argsF, get]
  | v :: l, k, i => by
    simp only [argsF, get, get_argsF l]
    by_cases h : i = k
    · subst h; simp
    · rw [if_neg h]
      by_cases h1 : i < k
      · rw [if_pos (by omega), if_pos h1]
      · rw [if_neg (by omega), if_neg h1, show i - k = (i - (k + 1)) + 1 by omega, List.getD_cons_succ]
theorem fr_args (args : List V) (n : Nat) (h : args.length ≤ n) : args ++ List.replicate (n - args.length) .junk = fr n (argsF 0 args) := by
  apply List.ext_getElem?
  intro i
  rcases Nat.lt_or_ge i n with hi | hi
  · rw [fr_get? hi, get_argsF, if_neg (by omega), Nat.sub_zero, List.getD_eq_getElem?_getD]
    rcases Nat.lt_or_ge i args.length with k | k
    · rw [List.getElem?_append_left k, List.getElem?_eq_getElem k]; rfl
    · rw [List.getElem?_append_right k, List.getElem?_replicate, if_pos (by omega), List.getElem?_eq_none k]; rfl
  · rw [List.getElem?_eq_none (by simp; omega), List.getElem?_eq_none (by rw [fr_length]; exact hi)]
theorem ev_fr {n : Nat} {l : List (Nat × V)} {i : Nat} (h : i < n) : ev (fr n l) (.tmp i) = get l i := fr_getD h
theorem ev_cst (t : List V) (v : V) : ev t (.cst v) = v := rfl
theorem put_none (t : List V) (v : V) : put t none v = t := rfl
theorem put_fr (n : Nat) (l : List (Nat × V)) (i : Nat) (v : V) : put (fr n l) (some i) v = fr n (ins i v l) := fr_set n l i v
structure Env where
  pureF : FuncId → FMode
  call : Caller
  N : Nat
  fb : Nat
def Env.framed (E : Env) : Env := { E with call := frameC E.pureF E.call }
abbrev Post := Ex → List V → Heap → Prop
def wp (E : Env) (c : ACode) (t : List V) (h : Heap) (Q : Post) : Prop :=
  match exec E.pureF E.call E.N E.fb c t h with
  | some (e, t', h') => Q e t' h'
  | none => False
def seqQ (E : Env) (b : ACode) (Q : Post) : Post := fun e t h =>
  match e with
  | .norm => wp E b t h Q
  | e => Q e t h
def blkQ (id : Nat) (Q : Post) : Post := fun e t h =>
  match e with
  | .exit i => if i = id then Q .norm t h else Q (.exit i) t h
  | e => Q e t h
def condP (E : Env) (v : V) (a b : ACode) (t : List V) (h : Heap) (Q : Post) : Prop :=
  match v with
  | .bool x => (x = true → wp E a t h Q) ∧ (x = false → wp E b t h Q)
  | _ => False
abbrev Cont := List V → Heap → Prop
def wpo (E : Env) (ops : List AOper) (t : List V) (h : Heap) (K : Cont) : Prop :=
  match runOps E.call E.fb ops t h with
  | some (t', h') => K t' h'
  | none => False
def opK (E : Env) (dst : Option Nat) (os : List AOper) (t : List V) (K : Cont) (v : V) (h : Heap) : Prop := wpo E os (put t dst v) h K
def wcall (r : Option (V × Heap)) (C : V → Heap → Prop) : Prop :=
  match r with
  | some (v, h) => C v h
  | none => False
def effP (e : Option Eff) (h : Heap) (C : V → Heap → Prop) : Prop :=
  match e with
  | some (.ret v) => C v h
  | some (.set o x v) => C v (h.set o x)
  | none => False
def wop (E : Env) (op : AOp) (t : List V) (h : Heap) (C : V → Heap → Prop) : Prop :=
  wcall (doOp E.call E.fb op (ev t) h) C
def gdP (E : Env) (v : V) (want : Bool) (op : AOp) (dst : Option Nat) (os : List AOper) (t : List V) (h : Heap) (K : Cont) : Prop :=
  match v with
  | .bool x => (x = want → wop E op t h (opK E dst os t K)) ∧ (x = !want → wpo E os (put t dst (.tup [])) h K)
  | .tup [] => wpo E os (put t dst (.tup [])) h K
  | _ => False
theorem wp_clr {E : Env} {l : List Nat} {n : Nat} {t : List (Nat × V)} {h : Heap} {Q : Post} : wp E (.clr l) (fr n t) h Q = Q .norm (fr n (dels l t)) h := by
  rw [← fr_clear]; rfl
theorem wp_seq {E : Env} {a b : ACode} {t : List V} {h : Heap} {Q : Post} : wp E (.seq a b) t h Q = wp E a t h (seqQ E b Q) := by
  unfold wp
  simp only [exec]
  cases exec E.pureF E.call E.N E.fb a t h with
  | none => rfl
  | some r => obtain ⟨e, t', h'⟩ := r; cases e <;> rfl
theorem wp_block {E : Env} {i : Nat} {b : ACode} {t : List V} {h : Heap} {Q : Post} : wp E (.block i b) t h Q = wp E b t h (blkQ i Q) := by
  unfold wp
  simp only [exec]
  cases exec E.pureF E.call E.N E.fb b t h with
  | none => rfl
  | some r =>
    obtain ⟨e, t', h'⟩ := r
    cases e with
    | exit j => by_cases hj : j = i <;> simp [blkQ, hj]
    | _ => rfl
theorem blkQ_norm {i : Nat} {Q : Post} {t : List V} {h : Heap} : blkQ i Q .norm t h = Q .norm t h := rfl
theorem blkQ_ret {i : Nat} {Q : Post} {t : List V} {h : Heap} : blkQ i Q .ret t h = Q .ret t h := rfl
theorem blkQ_exit {i j : Nat} {Q : Post} {t : List V} {h : Heap} : blkQ i Q (.exit j) t h = if j = i then Q .norm t h else Q (.exit j) t h := rfl
theorem wp_cond {E : Env} {c : Opd} {a b : ACode} {t : List V} {h : Heap} {Q : Post} : wp E (.cond c a b) t h Q = condP E (ev t c) a b t h Q := by
  unfold wp condP
  simp only [exec]
  cases ev t c with
  | bool x => cases x <;> simp [wp]
  | _ => rfl
theorem wp_region {E : Env} {ops : List AOper} {t : List V} {h : Heap} {Q : Post} : wp E (.region ops) t h Q = wpo E ops t h (Q .norm) := by
  unfold wp wpo
  simp only [exec]
  cases runOps E.call E.fb ops t h <;> rfl
theorem wpo_cons {E : Env} {dst : Option Nat} {op : AOp} {os : List AOper} {t : List V} {h : Heap} {K : Cont} : wpo E (⟨dst, op, none⟩ :: os) t h K = wop E op t h (opK E dst os t K) := by
  unfold wpo wop
  simp only [runOps, stepOp, wanted]
  cases doOp E.call E.fb op (ev t) h <;> rfl
theorem wpo_guard {E : Env} {dst : Option Nat} {op : AOp} {g : Nat} {w : Bool} {os : List AOper} {t : List V} {h : Heap} {K : Cont} :
    wpo E (⟨dst, op, some (g, w)⟩ :: os) t h K = gdP E (ev t (.tmp g)) w op dst os t h K := by
  unfold wpo gdP
  simp only [runOps, stepOp, wanted, ev]
  cases t.getD g .junk with
  | bool b =>
    cases b <;> cases w <;> simp [wop, wpo, opK] <;> cases doOp E.call E.fb op (ev t) h <;> rfl
  | tup l => cases l <;> rfl
  | _ => rfl
theorem wcall_some {v : V} {h : Heap} {C : V → Heap → Prop} : wcall (some (v, h)) C = C v h := rfl
theorem effP_ret {v : V} {h : Heap} {C : V → Heap → Prop} : effP (some (.ret v)) h C = C v h := rfl
theorem effP_set {o : Nat} {x : Ob} {v : V} {h : Heap} {C : V → Heap → Prop} : effP (some (.set o x v)) h C = C v (h.set o x) := rfl
theorem effP_none {h : Heap} {C : V → Heap → Prop} : effP none h C = False := rfl
theorem effP_ite {p : Prop} [Decidable p] {a b : Option Eff} {h : Heap} {C : V → Heap → Prop} : effP (if p then a else b) h C = ((p → effP a h C) ∧ (¬ p → effP b h C)) := by
  by_cases hp : p <;> simp [hp]
theorem wop_call {E : Env} {f : FuncId} {args : List Opd} {t : List V} {h : Heap} {C : V → Heap → Prop} (hy : f ≠ 1000000007) : wop E (.call f args) t h C = wcall (E.call f (args.map (ev t)) h) C := by
  have hy' : ¬ f = YLD := hy
  simp only [wop, doOp, if_neg hy']
theorem wop_prim {E : Env} {op : AOp} {t : List V} {h : Heap} {C : V → Heap → Prop} (hc : ∀ f args, op ≠ .call f args) (hv : ∀ f args, op ≠ .callv f args) :
    wop E op t h C = effP (prim E.fb (ev t) (fun o => h[o]?) op) h C := by
  unfold wop effP
  have : doOp E.call E.fb op (ev t) h = match prim E.fb (ev t) (fun o => h[o]?) op with | some (.ret v) => some (v, h) | some (.set o x v) => some (v, h.set o x) | none => none := by
    cases op <;> first | rfl | exact absurd rfl (hc _ _) | exact absurd rfl (hv _ _)
  rw [this]
  cases prim E.fb (ev t) (fun o => h[o]?) op with
  | none => rfl
  | some e => cases e <;> rfl
theorem wp_mono {E : Env} {c : ACode} {t : List V} {h : Heap} {Q Q' : Post} (H : wp E c t h Q) (hQ : ∀ e t h, Q e t h → Q' e t h) : wp E c t h Q' := by
  unfold wp at *
  cases he : exec E.pureF E.call E.N E.fb c t h with
  | none => rw [he] at H; exact H
  | some r => rw [he] at H; exact hQ _ _ _ H
def loopQ (i k : Nat) (I : Nat → List V → Heap → Prop) (Q : Post) : Post := fun e t h =>
  match e with
  | .norm => i < k ∧ I (i + 1) t h
  | e => Q e t h
theorem loopQ_norm {i k : Nat} {I : Nat → List V → Heap → Prop} {Q : Post} {t : List V} {h : Heap} : loopQ i k I Q .norm t h = (i < k ∧ I (i + 1) t h) := rfl
theorem loopQ_exit {i k j : Nat} {I : Nat → List V → Heap → Prop} {Q : Post} {t : List V} {h : Heap} : loopQ i k I Q (.exit j) t h = Q (.exit j) t h := rfl
theorem loopQ_ret {i k : Nat} {I : Nat → List V → Heap → Prop} {Q : Post} {t : List V} {h : Heap} : loopQ i k I Q .ret t h = Q .ret t h := rfl
theorem wp_loop {E : Env} {b : ACode} {t : List V} {h : Heap} {Q : Post} (I : Nat → List V → Heap → Prop) (k : Nat) (hk : k < E.N) (h0 : I 0 t h)
    (hs : ∀ i t h, i ≤ k → I i t h → wp E b t h (loopQ i k I Q)) : wp E (.loop [] [] b) t h Q := by
  unfold wp
  simp only [exec]
  have key : ∀ (m i : Nat) (t : List V) (h : Heap), i ≤ k → k - i < m → I i t h →
      match loopN (exec E.pureF E.call E.N E.fb b) (fun t h => (clear [] t, killA E.fb [] h)) m t h with | some (e, t', h') => Q e t' h' | none => False := by
    intro m
    induction m with
    | zero => intro i t h _ hm; omega
    | succ m ih =>
      intro i t h hi hm hI
      have H := hs i t h hi hI
      unfold wp at H
      simp only [loopN, clear, killA, List.foldl]
      cases he : exec E.pureF E.call E.N E.fb b t h with
      | none => rw [he] at H; exact H
      | some r =>
        obtain ⟨e, t', h'⟩ := r
        rw [he] at H
        cases e with
        | norm =>
          obtain ⟨h1, h2⟩ := H
          exact ih (i + 1) t' h' (by omega) (by omega) h2
        | _ => exact H
  exact key E.N 0 t h (Nat.zero_le _) (by omega) h0
def wpd (E : Env) (n : Nat) (ops : List (AOper × List Nat)) (fps : List Fp) (t : List V) (h : Heap) (K : Cont) : Prop :=
  match runDraw E.pureF E.call E.fb n ops fps t h with
  | some (t', h') => K t' h'
  | none => False
theorem wp_draw {E : Env} {ops : List (AOper × List Nat)} {t : List V} {h : Heap} {Q : Post} : wp E (.draw ops) t h Q = wpd E.framed h.length ops [] t h (Q .norm) := by
  unfold wp wpd
  simp only [exec, Env.framed]
  cases runDraw E.pureF (frameC E.pureF E.call) E.fb h.length ops [] t h <;> rfl
def plainD (ops : List (AOper × List Nat)) : Bool := ops.all fun x => x.2.isEmpty
theorem runDraw_plain {pureF : FuncId → FMode} {call : Caller} {fb n : Nat} : ∀ (ops : List (AOper × List Nat)) (fps : List Fp) (t : List V) (h : Heap), plainD ops = true →
    runDraw pureF call fb n ops fps t h = runOps call fb (ops.map (·.1)) t h
  | [], fps, t, h, _ => rfl
  | (o, ps) :: os, fps, t, h, hp => by
    simp only [plainD, List.all_cons, Bool.and_eq_true, List.isEmpty_iff] at hp
    obtain ⟨rfl, hp⟩ := hp
    simp only [runDraw, List.all_nil, ↓reduceIte, List.map_cons, runOps]
    cases stepOp call fb o t h with
    | none => rfl
    | some r => exact runDraw_plain os _ _ _ hp
theorem wp_draw_plain {E : Env} {ops : List (AOper × List Nat)} {t : List V} {h : Heap} {Q : Post} (hp : plainD ops = true) : wp E (.draw ops) t h Q = wpo E.framed (ops.map (·.1)) t h (Q .norm) := by
  rw [wp_draw]
  unfold wpd wpo
  rw [runDraw_plain ops _ _ _ hp]
theorem framed_pureF {E : Env} : E.framed.pureF = E.pureF := rfl
theorem framed_fb {E : Env} : E.framed.fb = E.fb := rfl
theorem framed_N {E : Env} : E.framed.N = E.N := rfl
theorem framed_pure {E : Env} {f : FuncId} {args : List V} {h : Heap} (hf : E.pureF f = .pure) (hy : f ≠ 1000000007) : E.framed.call f args h = E.call f args h := by
  have hy' : ¬ f = YLD := hy
  simp [Env.framed, frameC, hf, hy']
def retQ (res : List ARes) (C : V → Heap → Prop) : Post := fun e t h =>
  match e with
  | .exit _ => False
  | _ => match resA (fun o => h[o]?) t res with | some vs => C (packR vs) h | none => False
theorem retQ_norm {res : List ARes} {C : V → Heap → Prop} {t : List V} {h : Heap} : retQ res C .norm t h = (match resA (fun o => h[o]?) t res with | some vs => C (packR vs) h | none => False) := rfl
theorem retQ_ret {res : List ARes} {C : V → Heap → Prop} {t : List V} {h : Heap} : retQ res C .ret t h = (match resA (fun o => h[o]?) t res with | some vs => C (packR vs) h | none => False) := rfl
theorem body_of_wp {p : AProg} {call : Caller} {N fb : Nat} {fn : AFunc} {args : List V} {h : Heap} {C : V → Heap → Prop} (hl : args.length ≤ fn.nt)
    (H : wp ⟨pureOf p, call, N, fb⟩ fn.body (fr fn.nt (argsF 0 args)) h (retQ fn.res C)) : ∃ v h', bodyA p call N fb fn args h = some (v, h') ∧ C v h' := by
  unfold bodyA
  rw [fr_args args fn.nt hl]
  unfold wp at H
  simp only at H
  split at H
  · rename_i e t' h' he
    rw [he]
    cases e with
    | exit i => exact H.elim
    | norm =>
      simp only [retQ] at H
      split at H
      · rename_i vs hr; exact ⟨_, _, by simp only [hr], H⟩
      · exact H.elim
    | ret =>
      simp only [retQ] at H
      split at H
      · rename_i vs hr; exact ⟨_, _, by simp only [hr], H⟩
      · exact H.elim
  · exact H.elim
theorem call_pure {p : AProg} {N n : Nat} {f : FuncId} {fn : AFunc} {args : List V} {h : Heap} {v : V} (hf : p[f]? = some (some fn)) (hm : fn.mode = .pure) (ha : args.length = fn.nargs) (hl : fn.nargs ≤ fn.nt)
    (hfree : V.freeL args = true)
    (H : wp ⟨pureOf p, callA p N n, N, 0⟩ fn.body (fr fn.nt (argsF 0 args)) (deads fn.sites) (retQ fn.res fun x h' => V.shut (fun o => h'[o]?) sealDepth x = some v)) (hy : f ≠ YLD := by decide) :
    callA p N (n + 1) f args h = some (v, h) := by
  obtain ⟨x, h', hb, hs⟩ := body_of_wp (by omega) H
  unfold callA
  rw [if_neg hy]
  simp only [hf, ha, ↓reduceIte, hm, hfree, hb, hs]
def selV (y : Bool) (v : V) : V := match y with | true => v | false => .tup []
def impB (y : Bool) (P : Prop) : Prop := y = true → P
def valOf (r : Option (V × Heap)) : V := match r with | some (v, _) => v | none => .junk
def retH (r : Option (V × Heap)) (h : Heap) : Prop := match r with | some (_, h') => h' = h | none => False
def stays (pureF : FuncId → FMode) : AOp → Bool
  | .allocz .. | .box .. | .store .. | .s2b .. | .mkslice .. | .append .. | .copy .. | .callv .. | .clearS .. | .bnew .. => false
  | .call f _ => match pureF f with | .pure => true | .look => true | _ => false
  | _ => true
def wantB (x want : Bool) : Bool := match want with | true => x | false => !x
def sxo (E : Env) : List AOper → List V → Heap → Cont → Prop
  | [], t, h, K => K t h
  | o :: os, t, h, K =>
    match o.guard with
    | none => wcall (doOp E.call E.fb o.op (ev t) h) fun v h' => sxo E os (put t o.dst v) h' K
    | some (g, want) =>
      match ev t (.tmp g) with
      | .bool x =>
        match stays E.pureF o.op with
        | true => impB (wantB x want) (retH (doOp E.call E.fb o.op (ev t) h) h) ∧ sxo E os (put t o.dst (selV (wantB x want) (valOf (doOp E.call E.fb o.op (ev t) h)))) h K
        | false => (wantB x want = true → wcall (doOp E.call E.fb o.op (ev t) h) fun v h' => sxo E os (put t o.dst v) h' K) ∧ (wantB x want = false → sxo E os (put t o.dst (.tup [])) h K)
      | .tup [] => sxo E os (put t o.dst (.tup [])) h K
      | _ => False
def sxK (E : Env) (dst : Option Nat) (os : List AOper) (t : List V) (K : Cont) (v : V) (h : Heap) : Prop := sxo E os (put t dst v) h K
def gdS (E : Env) (v : V) (want st : Bool) (op : AOp) (dst : Option Nat) (os : List AOper) (t : List V) (h : Heap) (K : Cont) : Prop :=
  match v with
  | .bool x =>
    match st with
    | true => impB (wantB x want) (retH (doOp E.call E.fb op (ev t) h) h) ∧ sxo E os (put t dst (selV (wantB x want) (valOf (doOp E.call E.fb op (ev t) h)))) h K
    | false => (wantB x want = true → wcall (doOp E.call E.fb op (ev t) h) (sxK E dst os t K)) ∧ (wantB x want = false → sxo E os (put t dst (.tup [])) h K)
  | .tup [] => sxo E os (put t dst (.tup [])) h K
  | _ => False
theorem sxo_wpo {E : Env} : ∀ {ops : List AOper} {t : List V} {h : Heap} {K : Cont}, sxo E ops t h K → wpo E ops t h K
  | [], t, h, K, H => H
  | ⟨dst, op, none⟩ :: os, t, h, K, H => by
    rw [wpo_cons]
    simp only [sxo] at H
    unfold wop
    cases hd : doOp E.call E.fb op (ev t) h with
    | none => rw [hd] at H; exact H
    | some r => rw [hd] at H; exact sxo_wpo H
  | ⟨dst, op, some (g, want)⟩ :: os, t, h, K, H => by
    rw [wpo_guard]
    simp only [sxo] at H
    unfold gdP
    split at H
    · rename_i x hx
      split at H
      · obtain ⟨h1, h2⟩ := H
        refine ⟨fun e => ?_, fun e => ?_⟩
        · subst e
          have hw : wantB x x = true := by cases x <;> rfl
          rw [hw] at h1 h2
          have h1 := h1 rfl
          unfold wop
          cases hd : doOp E.call E.fb op (ev t) h with
          | none => rw [hd] at h1; exact h1
          | some r =>
            obtain ⟨v, h'⟩ := r
            rw [hd] at h1 h2
            simp only [retH] at h1
            subst h1
            exact sxo_wpo h2
        · subst e
          have hw : wantB (!want) want = false := by cases want <;> rfl
          rw [hw] at h2
          exact sxo_wpo h2
      · obtain ⟨h1, h2⟩ := H
        refine ⟨fun e => ?_, fun e => ?_⟩
        · subst e
          have h1 := h1 (by cases x <;> rfl)
          unfold wop
          cases hd : doOp E.call E.fb op (ev t) h with
          | none => rw [hd] at h1; exact h1
          | some r => rw [hd] at h1; exact sxo_wpo h1
        · subst e
          exact sxo_wpo (h2 (by cases want <;> rfl))
    · exact sxo_wpo H
    · exact H.elim
def sx (E : Env) : ACode → List V → Heap → Post → Prop
  | .seq a b, t, h, Q => sx E a t h fun e t h => match e with | .norm => sx E b t h Q | e => Q e t h
  | .cond c a b, t, h, Q => match ev t c with | .bool x => (x = true → sx E a t h Q) ∧ (x = false → sx E b t h Q) | _ => False
  | .block i b, t, h, Q => sx E b t h (blkQ i Q)
  | .region ops, t, h, Q => sxo E ops t h (Q .norm)
  | .draw ops, t, h, Q => match plainD ops with | true => sxo E.framed (ops.map (·.1)) t h (Q .norm) | false => wpd E.framed h.length ops [] t h (Q .norm)
  | .fresh n c, t, h, Q => sx { E with fb := h.length } c t (h ++ deads n) Q
  | c, t, h, Q => wp E c t h Q
def sqQ (E : Env) (b : ACode) (Q : Post) : Post := fun e t h => match e with | .norm => sx E b t h Q | e => Q e t h
def cdP (E : Env) (v : V) (a b : ACode) (t : List V) (h : Heap) (Q : Post) : Prop :=
  match v with
  | .bool x => (x = true → sx E a t h Q) ∧ (x = false → sx E b t h Q)
  | _ => False
theorem sx_wp {E : Env} : ∀ {c : ACode} {t : List V} {h : Heap} {Q : Post}, sx E c t h Q → wp E c t h Q
  | .seq a b, t, h, Q, H => by
    rw [wp_seq]
    refine wp_mono (sx_wp (c := a) H) fun e t h H => ?_
    cases e with
    | norm => exact sx_wp (c := b) H
    | exit i => exact H
    | ret => exact H
  | .cond c a b, t, h, Q, H => by
    rw [wp_cond]
    simp only [sx] at H
    unfold condP
    split at H
    · exact ⟨fun e => sx_wp (H.1 e), fun e => sx_wp (H.2 e)⟩
    · exact H.elim
  | .block i b, t, h, Q, H => by rw [wp_block]; exact sx_wp (c := b) H
  | .region ops, t, h, Q, H => by rw [wp_region]; exact sxo_wpo H
  | .draw ops, t, h, Q, H => by
    simp only [sx] at H
    split at H
    · rename_i hp; rw [wp_draw_plain hp]; exact sxo_wpo H
    · rw [wp_draw]; exact H
  | .skip, t, h, Q, H => H
  | .loop _ _ _, t, h, Q, H => H
  | .exit _, t, h, Q, H => H
  | .ret, t, h, Q, H => H
  | .clr _, t, h, Q, H => H
  | .rangeF _ _ _ _ _ _ _, t, h, Q, H => H
  | .fresh n c, t, h, Q, H => sx_wp (E := { E with fb := h.length }) (c := c) (t := t) (h := h ++ deads n) (Q := Q) H
theorem sx_fresh {E : Env} {n : Nat} {c : ACode} {t : List V} {h : Heap} {Q : Post} : sx E (.fresh n c) t h Q = sx { E with fb := h.length } c t (h ++ deads n) Q := rfl
theorem sx_seq {E : Env} {a b : ACode} {t : List V} {h : Heap} {Q : Post} : sx E (.seq a b) t h Q = sx E a t h (sqQ E b Q) := rfl
theorem sqQ_norm {E : Env} {b : ACode} {Q : Post} {t : List V} {h : Heap} : sqQ E b Q .norm t h = sx E b t h Q := rfl
theorem sqQ_exit {E : Env} {b : ACode} {Q : Post} {i : Nat} {t : List V} {h : Heap} : sqQ E b Q (.exit i) t h = Q (.exit i) t h := rfl
theorem sqQ_ret {E : Env} {b : ACode} {Q : Post} {t : List V} {h : Heap} : sqQ E b Q .ret t h = Q .ret t h := rfl
theorem sx_cond {E : Env} {c : Opd} {a b : ACode} {t : List V} {h : Heap} {Q : Post} : sx E (.cond c a b) t h Q = cdP E (ev t c) a b t h Q := rfl
theorem cdP_true {E : Env} {a b : ACode} {t : List V} {h : Heap} {Q : Post} : cdP E (.bool true) a b t h Q = sx E a t h Q := by simp [cdP]
theorem cdP_false {E : Env} {a b : ACode} {t : List V} {h : Heap} {Q : Post} : cdP E (.bool false) a b t h Q = sx E b t h Q := by simp [cdP]
theorem cdP_bool {E : Env} {x : Bool} {a b : ACode} {t : List V} {h : Heap} {Q : Post} : cdP E (.bool x) a b t h Q = ((x = true → sx E a t h Q) ∧ (x = false → sx E b t h Q)) := rfl
theorem sx_block {E : Env} {i : Nat} {b : ACode} {t : List V} {h : Heap} {Q : Post} : sx E (.block i b) t h Q = sx E b t h (blkQ i Q) := rfl
theorem sx_region {E : Env} {ops : List AOper} {t : List V} {h : Heap} {Q : Post} : sx E (.region ops) t h Q = sxo E ops t h (Q .norm) := rfl
theorem sx_draw {E : Env} {ops : List (AOper × List Nat)} {t : List V} {h : Heap} {Q : Post} (hp : plainD ops = true) : sx E (.draw ops) t h Q = sxo E.framed (ops.map (·.1)) t h (Q .norm) := by simp only [sx, hp]
theorem sx_skip {E : Env} {t : List V} {h : Heap} {Q : Post} : sx E .skip t h Q = Q .norm t h := rfl
theorem sx_ret {E : Env} {t : List V} {h : Heap} {Q : Post} : sx E .ret t h Q = Q .ret t h := rfl
theorem sx_exit {E : Env} {i : Nat} {t : List V} {h : Heap} {Q : Post} : sx E (.exit i) t h Q = Q (.exit i) t h := rfl
theorem sx_clr {E : Env} {l : List Nat} {n : Nat} {t : List (Nat × V)} {h : Heap} {Q : Post} : sx E (.clr l) (fr n t) h Q = Q .norm (fr n (dels l t)) h := wp_clr
theorem sxo_nil {E : Env} {t : List V} {h : Heap} {K : Cont} : sxo E [] t h K = K t h := rfl
theorem sxo_cons {E : Env} {dst : Option Nat} {op : AOp} {os : List AOper} {t : List V} {h : Heap} {K : Cont} : sxo E (⟨dst, op, none⟩ :: os) t h K = wop E op t h (sxK E dst os t K) := rfl
theorem sxo_guard {E : Env} {dst : Option Nat} {op : AOp} {g : Nat} {w : Bool} {os : List AOper} {t : List V} {h : Heap} {K : Cont} :
    sxo E (⟨dst, op, some (g, w)⟩ :: os) t h K = gdS E (ev t (.tmp g)) w (stays E.pureF op) op dst os t h K := by
  simp only [sxo, gdS]
  rfl
theorem gdS_bool {E : Env} {x w : Bool} {op : AOp} {dst : Option Nat} {os : List AOper} {t : List V} {h : Heap} {K : Cont} :
    gdS E (.bool x) w true op dst os t h K = (impB (wantB x w) (retH (doOp E.call E.fb op (ev t) h) h) ∧ sxo E os (put t dst (selV (wantB x w) (valOf (doOp E.call E.fb op (ev t) h)))) h K) := rfl
theorem gdS_eff {E : Env} {x w : Bool} {op : AOp} {dst : Option Nat} {os : List AOper} {t : List V} {h : Heap} {K : Cont} :
    gdS E (.bool x) w false op dst os t h K = ((wantB x w = true → wop E op t h (sxK E dst os t K)) ∧ (wantB x w = false → sxo E os (put t dst (.tup [])) h K)) := rfl
theorem gdS_tup {E : Env} {w st : Bool} {op : AOp} {dst : Option Nat} {os : List AOper} {t : List V} {h : Heap} {K : Cont} : gdS E (.tup []) w st op dst os t h K = sxo E os (put t dst (.tup [])) h K := rfl
theorem gdS_sel {E : Env} {x y w : Bool} {op : AOp} {dst : Option Nat} {os : List AOper} {t : List V} {h : Heap} {K : Cont} :
    gdS E (selV y (.bool x)) w true op dst os t h K = (impB y (impB (wantB x w) (retH (doOp E.call E.fb op (ev t) h) h)) ∧ sxo E os (put t dst (selV y (selV (wantB x w) (valOf (doOp E.call E.fb op (ev t) h))))) h K) := by
  cases y
  · simp [gdS, selV, impB]
  · simp only [selV, gdS, impB, true_implies]
theorem gdS_seleff {E : Env} {x y w : Bool} {op : AOp} {dst : Option Nat} {os : List AOper} {t : List V} {h : Heap} {K : Cont} :
    gdS E (selV y (.bool x)) w false op dst os t h K = ((y = true → gdS E (.bool x) w false op dst os t h K) ∧ (y = false → sxo E os (put t dst (.tup [])) h K)) := by
  cases y
  · simp [gdS, selV]
  · simp [gdS, selV]
theorem sxK_def {E : Env} {dst : Option Nat} {os : List AOper} {t : List V} {K : Cont} {v : V} {h : Heap} : sxK E dst os t K v h = sxo E os (put t dst v) h K := rfl
theorem wantB_true {x : Bool} : wantB x true = x := rfl
theorem wantB_false {x : Bool} : wantB x false = !x := rfl
theorem selV_true {v : V} : selV true v = v := rfl
theorem selV_false {v : V} : selV false v = .tup [] := rfl
theorem selV_and {x y : Bool} {v : V} : selV (x && y) v = selV x (selV y v) := by cases x <;> cases y <;> rfl
theorem impB_true {P : Prop} : impB true P = P := by simp [impB]
theorem impB_false {P : Prop} : impB false P = True := by simp [impB]
theorem impB_and {x y : Bool} {P : Prop} : impB (x && y) P = impB x (impB y P) := by cases x <;> cases y <;> simp [impB]
theorem impB_triv {x : Bool} : impB x True = True := by simp [impB]
theorem selV_congr {x : Bool} {v v' : V} (hv : x = true → v = v') : selV x v = selV x v' := by
  cases x with
  | true => exact hv rfl
  | false => rfl
theorem impB_congr {x : Bool} {P P' : Prop} (hv : x = true → P = P') : impB x P = impB x P' := by
  cases x with
  | true => simp only [impB, hv rfl]
  | false => simp [impB]
theorem selV_wt {x : Bool} {v : V} : selV (wantB x true) v = selV x v := rfl
theorem selV_wf {x : Bool} {v : V} : selV (wantB x false) v = selV (!x) v := rfl
theorem selV_nor {x y : Bool} {v : V} : selV (!(x || y)) v = selV (!x) (selV (!y) v) := by cases x <;> cases y <;> rfl
theorem impB_wt {x : Bool} {v : Prop} : impB (wantB x true) v = impB x v := rfl
theorem impB_wf {x : Bool} {v : Prop} : impB (wantB x false) v = impB (!x) v := rfl
theorem impB_nor {x y : Bool} {v : Prop} : impB (!(x || y)) v = impB (!x) (impB (!y) v) := by cases x <;> cases y <;> simp [impB]
theorem selV_nt {v : V} : selV (!true) v = .tup [] := rfl
theorem selV_nf {v : V} : selV (!false) v = v := rfl
theorem impB_nt {v : Prop} : impB (!true) v = True := by simp [impB]
theorem impB_nf {v : Prop} : impB (!false) v = v := by simp [impB]
theorem valOf_some {v : V} {h : Heap} : valOf (some (v, h)) = v := rfl
theorem retH_some {v : V} {h h' : Heap} : retH (some (v, h')) h = (h' = h) := rfl
def pickO (c a b : V) : Option Eff := match c with | .bool x => some (.ret (match x with | true => a | false => b)) | _ => none
def pickAnd (x : Bool) (e : Option Eff) : Option Eff := match x with | true => e | false => some (.ret (.bool false))
def pickOr (x : Bool) (e : Option Eff) : Option Eff := match x with | true => some (.ret (.bool true)) | false => e
theorem prim_pick {fb : Nat} {ρ : Opd → V} {get : Nat → Option Ob} {c a b : Opd} : prim fb ρ get (.pick c a b) = pickO (ρ c) (ρ a) (ρ b) := rfl
theorem pickO_true {a b : V} : pickO (.bool true) a b = some (.ret a) := rfl
theorem pickO_false {a b : V} : pickO (.bool false) a b = some (.ret b) := rfl
theorem pickO_and {x y : Bool} : pickO (.bool x) (selV x (.bool y)) (.bool false) = some (.ret (.bool (x && y))) := by cases x <;> rfl
theorem pickO_or {x y : Bool} : pickO (.bool x) (.bool true) (selV (!x) (.bool y)) = some (.ret (.bool (x || y))) := by cases x <;> rfl
theorem pickO_orn {x y : Bool} : pickO (.bool (!x)) (.bool true) (selV x (.bool y)) = some (.ret (.bool (!x || y))) := by cases x <;> rfl
theorem pickO_bb {x y z : Bool} : pickO (.bool x) (.bool y) (.bool z) = some (.ret (.bool (bif x then y else z))) := by cases x <;> rfl
theorem pickO_andr {x r : Bool} {w : V} : pickO (.bool (x && r)) (selV x w) (.bool false) = pickAnd x (pickO (.bool r) w (.bool false)) := by cases x <;> rfl
theorem pickO_orr {x r : Bool} {w : V} : pickO (.bool (x || r)) (.bool true) (selV (!x) w) = pickOr x (pickO (.bool r) (.bool true) w) := by cases x <;> rfl
theorem pickO_orrn {x r : Bool} {w : V} : pickO (.bool (!x || r)) (.bool true) (selV x w) = pickOr (!x) (pickO (.bool r) (.bool true) w) := by cases x <;> rfl
theorem pickAnd_bool {x y : Bool} : pickAnd x (some (.ret (.bool y))) = some (.ret (.bool (x && y))) := by cases x <;> rfl
theorem pickOr_bool {x y : Bool} : pickOr x (some (.ret (.bool y))) = some (.ret (.bool (x || y))) := by cases x <;> rfl
theorem selV_nn {x : Bool} {v : V} : selV (!!x) v = selV x v := by cases x <;> rfl
theorem impB_nn {x : Bool} {v : Prop} : impB (!!x) v = impB x v := by cases x <;> simp [impB]
end Go.Am


set_option linter.unusedVariables false
set_option linter.unusedSimpArgs false
namespace Go.Am
theorem freeL_cons (v : V) (l : List V) : V.freeL (v :: l) = (v.free && V.freeL l) := by rfl
theorem freeL_nil : V.freeL [] = true := by rfl
theorem free_int (k : IntKind) (n : Int) : (V.int k n).free = true := rfl
theorem free_bool (n : Bool) : (V.bool n).free = true := rfl
theorem free_str (n : List UInt8) : (V.str n).free = true := rfl
theorem free_nils : V.nils.free = true := rfl
theorem free_agg (l : List V) : (V.agg l).free = V.freeL l := rfl
theorem free_tup (l : List V) : (V.tup l).free = V.freeL l := rfl
theorem free_sl (l : List V) (s : Nat) (c : Option Nat) : (V.sl l s c).free = V.freeL l := rfl
theorem freeL_append (a b : List V) : V.freeL (a ++ b) = (V.freeL a && V.freeL b) := by
  induction a with
  | nil => simp [freeL_nil]
  | cons x a ih => simp [freeL_cons, ih, Bool.and_assoc]
theorem freeL_map {α : Type} (f : α → V) (h : ∀ a, (f a).free = true) (l : List α) : V.freeL (l.map f) = true := by
  induction l with
  | nil => rfl
  | cons a l ih => simp [freeL_cons, h, ih]
theorem shut_plain {get : Nat → Option Ob} {d : Nat} {v : V} (h : v.free = true) : V.shut get (d + 1) v = some v := by
  simp [V.shut, h]
theorem shut_int {get : Nat → Option Ob} {d : Nat} {k : IntKind} {n : Int} : V.shut get (d + 1) (.int k n) = some (.int k n) := shut_plain rfl
theorem shut_bool {get : Nat → Option Ob} {d : Nat} {b : Bool} : V.shut get (d + 1) (.bool b) = some (.bool b) := shut_plain rfl
theorem opt_bind_some {α β : Type} (a : α) (f : α → Option β) : Option.bind (some a) f = f a := rfl
theorem opt_bind_none {α β : Type} (f : α → Option β) : Option.bind none f = none := rfl
theorem opt_map_some {α β : Type} (a : α) (f : α → β) : Option.map f (some a) = some (f a) := rfl
theorem opt_map_none {α β : Type} (f : α → β) : Option.map f none = none := rfl
theorem wrap64_eq (n : Int) : IntKind.i64.wrap n = if n % 18446744073709551616 ≥ 9223372036854775808 then n % 18446744073709551616 - 18446744073709551616 else n % 18446744073709551616 := by
  unfold IntKind.wrap
  simp [IntKind.bits, IntKind.signed]
theorem wrap64 {n : Int} (h1 : -9223372036854775808 ≤ n) (h2 : n ≤ 9223372036854775807) : IntKind.i64.wrap n = n := by
  rw [wrap64_eq]
  split <;> omega
def ElemOk' (s : Nat) (e : V) : Prop := e.cells.length = s ∧ wrapV e.cells = e ∧ (∀ c ∈ e.cells, c.free = true ∧ c.oneCell = true)
theorem mapM_free {get : Nat → Option Ob} {d : Nat} : ∀ {l : List V}, (∀ c ∈ l, c.free = true) → l.mapM (V.shut get (d + 1)) = some l
  | [], _ => rfl
  | c :: l, h => by
    rw [List.mapM_cons, shut_plain (h c (by simp)), mapM_free (fun c hc => h c (by simp [hc]))]
    rfl
theorem flat_chunk (s : Nat) (hs : 0 < s) : ∀ (L : List V), (∀ e ∈ L, ElemOk' s e) → ((List.range L.length).map fun i => wrapV (((L.flatMap V.cells).drop (i * s)).take s)) = L
  | [], _ => rfl
  | e :: L, h => by
    obtain ⟨h1, h2, h3⟩ := h e (by simp)
    have ih := flat_chunk s hs L (fun e he => h e (by simp [he]))
    rw [List.length_cons, List.range_succ_eq_map, List.map_cons, List.map_map]
    have e0 : wrapV ((((e :: L).flatMap V.cells).drop (0 * s)).take s) = e := by
      simp only [Nat.zero_mul, List.drop_zero, List.flatMap_cons]
      rw [List.take_append_of_le_length (by omega), List.take_of_length_le (by omega), h2]
    have e1 : (List.range L.length).map ((fun i => wrapV ((((e :: L).flatMap V.cells).drop (i * s)).take s)) ∘ Nat.succ) = (List.range L.length).map fun i => wrapV (((L.flatMap V.cells).drop (i * s)).take s) := by
      apply List.map_congr_left
      intro i _
      simp only [Function.comp, List.flatMap_cons, Nat.succ_eq_add_one]
      rw [show (i + 1) * s = e.cells.length + i * s by rw [h1, Nat.succ_mul]; omega, List.drop_append, List.drop_eq_nil_of_le (by omega), List.nil_append]
      congr 3
      omega
    rw [e0, e1, ih]
theorem shut_view {get : Nat → Option Ob} {d o ver off len s : Nat} {cap : Option Nat} {L : List V} (hs : 0 < s) (hL : ∀ e ∈ L, ElemOk' s e) (hlen : len = L.length)
    (hl : loadA get (len * s) (.ptr o ver off) = some (L.flatMap V.cells)) : V.shut get (d + 2) (.view o ver off len s cap) = some (.sl L s cap) := by
  have hf : ∀ c ∈ L.flatMap V.cells, c.free = true ∧ c.oneCell = true := by
    intro c hc
    obtain ⟨e, he, hc⟩ := List.mem_flatMap.1 hc
    exact (hL e he).2.2 c hc
  have hm : (L.flatMap V.cells).mapM (V.shut get (d + 1)) = some (L.flatMap V.cells) := mapM_free (fun c hc => (hf c hc).1)
  have e : V.shut get (d + 2) (.view o ver off len s cap) = match loadA get (len * s) (.ptr o ver off) with
      | some cs => match cs.mapM (V.shut get (d + 1)) with
        | some cs => if cs.all V.oneCell then some (.sl ((List.range len).map fun i => wrapV ((cs.drop (i * s)).take s)) s cap) else none
        | none => none
      | none => none := rfl
  rw [e, hl]
  simp only [hm]
  rw [if_pos (by rw [List.all_eq_true]; exact fun c hc => (hf c hc).2)]
  subst hlen
  rw [flat_chunk s hs L hL]
def sxL (E : Env) : Nat → ACode → List V → Heap → Post → Prop
  | 0, _, _, _, _ => False
  | m + 1, b, t, h, Q => sx E b t h fun e t h => match e with | .norm => sxL E m b t h Q | e => Q e t h
def lpQ (E : Env) (m : Nat) (b : ACode) (Q : Post) : Post := fun e t h => match e with | .norm => sxL E m b t h Q | e => Q e t h
theorem sxL_succ {E : Env} {m : Nat} {b : ACode} {t : List V} {h : Heap} {Q : Post} : sxL E (m + 1) b t h Q = sx E b t h (lpQ E m b Q) := rfl
theorem lpQ_norm {E : Env} {m : Nat} {b : ACode} {Q : Post} {t : List V} {h : Heap} : lpQ E m b Q .norm t h = sxL E m b t h Q := rfl
theorem lpQ_exit {E : Env} {m i : Nat} {b : ACode} {Q : Post} {t : List V} {h : Heap} : lpQ E m b Q (.exit i) t h = Q (.exit i) t h := rfl
theorem lpQ_ret {E : Env} {m : Nat} {b : ACode} {Q : Post} {t : List V} {h : Heap} : lpQ E m b Q .ret t h = Q .ret t h := rfl
theorem sx_unroll {E : Env} (m : Nat) {b : ACode} {t : List V} {h : Heap} {Q : Post} (hm : m ≤ E.N) (H : sxL E m b t h Q) : sx E (.loop [] [] b) t h Q := by
  show wp E (.loop [] [] b) t h Q
  unfold wp
  simp only [exec]
  have key : ∀ (m n : Nat) (t : List V) (h : Heap), m ≤ n → sxL E m b t h Q →
      match loopN (exec E.pureF E.call E.N E.fb b) (fun t h => (clear [] t, killA E.fb [] h)) n t h with | some (e, t', h') => Q e t' h' | none => False := by
    intro m
    induction m with
    | zero => intro n t h _ H; exact H.elim
    | succ m ih =>
      intro n t h hmn H
      obtain ⟨n, rfl⟩ : ∃ k, n = k + 1 := ⟨n - 1, by omega⟩
      have H' := sx_wp H
      unfold wp at H'
      simp only [loopN, clear, killA, List.foldl]
      cases he : exec E.pureF E.call E.N E.fb b t h with
      | none => rw [he] at H'; exact H'
      | some r =>
        obtain ⟨e, t', h'⟩ := r
        rw [he] at H'
        cases e with
        | norm => exact ih n t' h' (by omega) H'
        | _ => exact H'
  exact key m E.N t h hm H
theorem sx_loop {E : Env} {b : ACode} {t : List V} {h : Heap} {Q : Post} (I : Nat → List V → Heap → Prop) (k : Nat) (hk : k < E.N) (h0 : I 0 t h)
    (hs : ∀ i t h, i ≤ k → I i t h → sx E b t h (loopQ i k I Q)) : sx E (.loop [] [] b) t h Q :=
  wp_loop I k hk h0 fun i t h hi hI => sx_wp (hs i t h hi hI)
end Go.Am


set_option linter.unusedVariables false
set_option linter.unusedSimpArgs false
namespace Go.Am
def Sub (c c' : Caller) : Prop := ∀ f args h r, c f args h = some r → c' f args h = some r
theorem doOp_mono {c c' : Caller} (hc : Sub c c') {fb : Nat} {op : AOp} {ρ : Opd → V} {h : Heap} {r : V × Heap} (H : doOp c fb op ρ h = some r) : doOp c' fb op ρ h = some r := by
  unfold doOp at *
  split at H
  · split at H
    · cases H
    · rename_i hny
      simp only [if_neg hny]
      exact hc _ _ _ _ H
  · split at H
    · split at H
      · cases H
      · rename_i hny
        simp only [if_neg hny]
        exact hc _ _ _ _ H
    · exact hc _ _ _ _ H
    · cases H
  · exact H
theorem stepOp_mono {c c' : Caller} (hc : Sub c c') {fb : Nat} {o : AOper} {t : List V} {h : Heap} {r : List V × Heap} (H : stepOp c fb o t h = some r) : stepOp c' fb o t h = some r := by
  unfold stepOp at *
  split at H
  · cases H
  · exact H
  · split at H
    · rename_i v h' hd
      rw [doOp_mono hc hd]
      exact H
    · cases H
theorem runOps_mono {c c' : Caller} (hc : Sub c c') {fb : Nat} : ∀ {ops : List AOper} {t : List V} {h : Heap} {r : List V × Heap}, runOps c fb ops t h = some r → runOps c' fb ops t h = some r
  | [], t, h, r, H => H
  | o :: os, t, h, r, H => by
    simp only [runOps] at *
    split at H
    · rename_i t' h' hs
      rw [stepOp_mono hc hs]
      exact runOps_mono hc H
    · cases H
theorem runDraw_mono {pureF : FuncId → FMode} {c c' : Caller} (hc : Sub c c') {fb n : Nat} : ∀ {ops : List (AOper × List Nat)} {fps : List Fp} {t : List V} {h : Heap} {r : List V × Heap},
    runDraw pureF c fb n ops fps t h = some r → runDraw pureF c' fb n ops fps t h = some r
  | [], fps, t, h, r, H => H
  | (o, ps) :: os, fps, t, h, r, H => by
    simp only [runDraw] at *
    split at H
    · rename_i hp
      rw [if_pos hp]
      split at H
      · rename_i t' h' hs
        rw [stepOp_mono hc hs]
        exact runDraw_mono hc H
      · cases H
    · cases H
theorem frameC_mono {pureF : FuncId → FMode} {c c' : Caller} (hc : Sub c c') : Sub (frameC pureF c) (frameC pureF c') := by
  intro f args h r H
  unfold frameC at *
  by_cases hny : f = YLD
  · rw [if_pos hny] at H ⊢
    split at H
    · rename_i v k e
      rw [hc _ _ _ _ e]
      exact H
    · cases H
  rw [if_neg hny] at H ⊢
  split at H
  · exact hc _ _ _ _ H
  · split at H
    · rename_i hp; rw [if_pos hp]; exact hc _ _ _ _ H
    · cases H
  · split at H
    · rename_i v h1 e1 e2
      rw [e1, hc _ _ _ _ e2]
      exact H
    · cases H
theorem loopN_mono {f f' : List V → Heap → Option (Ex × List V × Heap)} (hf : ∀ t h r, f t h = some r → f' t h = some r) {pre : List V → Heap → List V × Heap} : ∀ {n n' : Nat} {t : List V} {h : Heap} {r : Ex × List V × Heap}, n ≤ n' →
    loopN f pre n t h = some r → loopN f' pre n' t h = some r
  | 0, n', t, h, r, hn, H => by simp [loopN] at H
  | n + 1, n', t, h, r, hn, H => by
    obtain ⟨m, rfl⟩ : ∃ m, n' = m + 1 := ⟨n' - 1, by omega⟩
    simp only [loopN] at *
    split at H
    · rename_i t' h' hs
      rw [hf _ _ _ hs]
      exact loopN_mono hf (by omega) H
    · rename_i hne
      rw [hf _ _ _ H]
      obtain ⟨e, t', h'⟩ := r
      cases e with
      | norm => exact absurd H (hne _ _)
      | _ => rfl
theorem exec_mono {pureF : FuncId → FMode} {c c' : Caller} (hc : Sub c c') {N N' : Nat} (hN : N ≤ N') {fb : Nat} : ∀ {code : ACode} {t : List V} {h : Heap} {r : Ex × List V × Heap}, exec pureF c N fb code t h = some r → exec pureF c' N' fb code t h = some r
  | .skip, t, h, r, H => H
  | .region ops, t, h, r, H => by
    simp only [exec] at *
    split at H
    · rename_i hs; rw [runOps_mono hc hs]; exact H
    · cases H
  | .draw ops, t, h, r, H => by
    simp only [exec] at *
    split at H
    · rename_i hs; rw [runDraw_mono (frameC_mono hc) hs]; exact H
    · cases H
  | .seq a b, t, h, r, H => by
    simp only [exec] at *
    split at H
    · rename_i hs; rw [exec_mono hc hN hs]; exact exec_mono hc hN H
    · rename_i hne
      rw [exec_mono hc hN H]
      obtain ⟨e, t', h'⟩ := r
      cases e with
      | norm => exact absurd H (hne _ _)
      | _ => rfl
  | .cond cd a b, t, h, r, H => by
    simp only [exec] at *
    split at H
    · exact exec_mono hc hN H
    · exact exec_mono hc hN H
    · cases H
  | .block id b, t, h, r, H => by
    simp only [exec] at *
    split at H
    · rename_i hs; rw [exec_mono hc hN hs]; exact H
    · rename_i hne
      rw [exec_mono hc hN H]
      obtain ⟨e, t', h'⟩ := r
      cases e with
      | exit i => exact absurd H (hne _ _ _)
      | _ => rfl
  | .loop clr kill b, t, h, r, H => by
    simp only [exec] at *
    exact loopN_mono (fun t h r => exec_mono hc hN) hN H
  | .exit id, t, h, r, H => H
  | .ret, t, h, r, H => H
  | .clr l, t, h, r, H => H
  | .fresh n b, t, h, r, H => by
    simp only [exec] at *
    exact exec_mono hc hN H
  | .rangeF f ps a b fid k site, t, h, r, H => by
    simp only [exec] at *
    split at H
    · split at H
      · rename_i hx _ _ _ _ he
        split at H
        · cases H
        · rename_i hny
          simp only [he, if_neg hny]
          split at H
          · rename_i e
            rw [hc _ _ _ _ e]
            exact H
          · cases H
      · cases H
    · cases H
theorem yieldA_mono {p : AProg} {c c' : Caller} (hc : Sub c c') {N N' : Nat} (hN : N ≤ N') {args : List V} {h : Heap} {r : V × Heap} (H : yieldA p c N args h = some r) : yieldA p c' N' args h = some r := by
  unfold yieldA at *
  split at H
  case h_2 => cases H
  split at H
  case h_2 => cases H
  split at H
  case isFalse => cases H
  rename_i hv
  try rw [if_pos hv]
  split at H
  case h_2 => cases H
  rename_i hp
  split at H
  case h_2 => cases H
  rename_i hr
  try rw [hr]
  split at H
  case isFalse => cases H
  rename_i hl
  try rw [if_pos hl]
  split at H
  case h_2 => cases H
  rename_i he
  rw [exec_mono hc hN he]
  split at H
  case h_2 => cases H
  rename_i ho
  split at H
  case isFalse => cases H
  rename_i hv2
  simp only [ho, hv2, ↓reduceIte] at H ⊢
  split at H
  case h_2 => cases H
  rename_i he2
  rw [exec_mono hc hN he2]
  exact H
theorem bodyA_mono {p : AProg} {c c' : Caller} (hc : Sub c c') {N N' : Nat} (hN : N ≤ N') {fb : Nat} {fn : AFunc} {args : List V} {h : Heap} {r : V × Heap} (H : bodyA p c N fb fn args h = some r) : bodyA p c' N' fb fn args h = some r := by
  unfold bodyA at *
  split at H
  · rename_i he; rw [exec_mono hc hN he]; exact H
  · rename_i he; rw [exec_mono hc hN he]; exact H
  · cases H
theorem callA_mono (p : AProg) : ∀ {n n' : Nat} {N N' : Nat}, n ≤ n' → N ≤ N' → Sub (callA p N n) (callA p N' n')
  | 0, n', N, N', hn, hN => by intro f args h r H; simp [callA] at H
  | n + 1, n', N, N', hn, hN => by
    obtain ⟨m, rfl⟩ : ∃ m, n' = m + 1 := ⟨n' - 1, by omega⟩
    have ih : Sub (callA p N n) (callA p N' m) := callA_mono p (by omega) hN
    intro f args h r H
    unfold callA at *
    by_cases hny : f = YLD
    · rw [if_pos hny] at H ⊢
      exact yieldA_mono ih hN H
    rw [if_neg hny] at H ⊢
    cases hf : p[f]? with
    | none => simp [hf] at H
    | some o =>
      cases o with
      | none => simp [hf] at H
      | some fn =>
        simp only [hf] at H ⊢
        by_cases hl : args.length = fn.nargs
        · rw [if_pos hl] at H ⊢
          cases hm : fn.mode with
          | keep => simp only [hm] at H ⊢; exact bodyA_mono ih hN H
          | auto =>
            simp only [hm] at H ⊢
            by_cases hfr : V.freeL args = true
            · rw [if_pos hfr] at H ⊢
              cases hb : bodyA p (callA p N n) N 0 fn args (deads fn.sites) with
              | none => simp [hb] at H
              | some x => rw [hb] at H; rw [bodyA_mono ih hN hb]; exact H
            · rw [if_neg hfr] at H ⊢
              exact bodyA_mono ih hN H
          | pure =>
            simp only [hm] at H ⊢
            by_cases hfr : V.freeL args = true
            · rw [if_pos hfr] at H ⊢
              cases hb : bodyA p (callA p N n) N 0 fn args (deads fn.sites) with
              | none => simp [hb] at H
              | some x => rw [hb] at H; rw [bodyA_mono ih hN hb]; exact H
            · rw [if_neg hfr] at H
              cases H
          | look =>
            simp only [hm] at H ⊢
            cases ha : args.mapM (V.shut (fun o => h[o]?) sealDepth) with
            | none => simp [ha] at H
            | some args' =>
              simp only [ha] at H ⊢
              cases hb : bodyA p (callA p N n) N 0 fn args' (deads fn.sites) with
              | none => simp [hb] at H
              | some x => rw [hb] at H; rw [bodyA_mono ih hN hb]; exact H
        · rw [if_neg hl] at H
          cases H
theorem callA_heap {p : AProg} {N n : Nat} {f : FuncId} {args : List V} {h h' : Heap} {v : V} (hm : pureOf p f = .pure) (H : callA p N n f args h' = some (v, h')) (hy : f ≠ YLD := by decide) : callA p N n f args h = some (v, h) := by
  cases n with
  | zero => simp [callA] at H
  | succ n =>
    unfold callA at *
    rw [if_neg hy] at H ⊢
    unfold pureOf at hm
    cases hf : p[f]? with
    | none => simp [hf] at H
    | some o =>
      cases o with
      | none => simp [hf] at H
      | some fn =>
        simp only [hf] at H hm ⊢
        by_cases hl : args.length = fn.nargs
        · rw [if_pos hl] at H ⊢
          simp only [hm] at H ⊢
          by_cases hfr : V.freeL args = true
          · rw [if_pos hfr] at H ⊢
            cases hb : bodyA p (callA p N n) N 0 fn args (deads fn.sites) with
            | none => simp [hb] at H
            | some x =>
              obtain ⟨y, k⟩ := x
              simp only [hb] at H ⊢
              cases hs : V.shut (fun o => k[o]?) sealDepth y with
              | none => simp [hs] at H
              | some z =>
                simp only [hs, Option.some.injEq, Prod.mk.injEq] at H ⊢
                exact ⟨H.1, trivial⟩
          · rw [if_neg hfr] at H
            cases H
        · rw [if_neg hl] at H
          cases H
theorem closed_call {p : AProg} {N0 n0 : Nat} {f : FuncId} {args : List V} {v : V} (hm : pureOf p f = .pure) (H : callA p N0 n0 f args [] = some (v, [])) {N n : Nat} (hN : N0 ≤ N) (hn : n0 ≤ n) (h : Heap) (hy : f ≠ YLD := by decide) : callA p N n f args h = some (v, h) :=
  callA_mono p hn hN f args h (v, h) (callA_heap (h := h) (h' := []) hm H hy)
theorem call_look {p : AProg} {N n : Nat} {f : FuncId} {fn : AFunc} {args args' : List V} {h : Heap} {v : V} (hf : p[f]? = some (some fn)) (hm : fn.mode = .look) (ha : args.length = fn.nargs) (hl : fn.nargs ≤ fn.nt)
    (hs : args.mapM (V.shut (fun o => h[o]?) sealDepth) = some args')
    (H : wp ⟨pureOf p, callA p N n, N, 0⟩ fn.body (fr fn.nt (argsF 0 args')) (deads fn.sites) (retQ fn.res fun x h' => x = v ∧ v.plain = true)) (hy : f ≠ YLD := by decide) :
    callA p N (n + 1) f args h = some (v, h) := by
  have hl' : args'.length = args.length := (mapM_get hs).1
  obtain ⟨x, h', hb, hx, hp⟩ := body_of_wp (by omega) H
  subst hx
  unfold callA
  rw [if_neg hy]
  simp only [hf, ha, ↓reduceIte, hm, hs, hb, hp]
theorem call_auto {p : AProg} {N n : Nat} {f : FuncId} {fn : AFunc} {args : List V} {h : Heap} {v : V} (hf : p[f]? = some (some fn)) (hm : fn.mode = .auto) (ha : args.length = fn.nargs) (hl : fn.nargs ≤ fn.nt)
    (hfree : V.freeL args = true)
    (H : wp ⟨pureOf p, callA p N n, N, 0⟩ fn.body (fr fn.nt (argsF 0 args)) (deads fn.sites) (retQ fn.res fun x h' => V.shut (fun o => h'[o]?) sealDepth x = some v)) (hy : f ≠ YLD := by decide) :
    callA p N (n + 1) f args h = some (v, h) := by
  obtain ⟨x, h', hb, hs⟩ := body_of_wp (by omega) H
  unfold callA
  rw [if_neg hy]
  simp only [hf, ha, ↓reduceIte, hm, hfree, hb, hs]
theorem plain_bool (b : Bool) : (V.bool b).plain = true := rfl
theorem plain_int (k : IntKind) (b : Int) : (V.int k b).plain = true := rfl
end Go.Am


set_option linter.unusedVariables false
set_option linter.unusedSimpArgs false
namespace Go.Am
structure IsL (l : V) (s : Nat) (cs : List (List V)) : Prop where
  free : l.free = true
  len : lenA l = some cs.length
  nstr : ∀ b, l ≠ .str b
  at_ : ∀ i : Nat, iaddrSA s l (.int .i64 i) = match cs[i]? with | some c => some (.ret (.iptr c 0)) | none => none
  first : ∀ get n, n ≤ cs.length → firstA get s n l = some (cs.take n).flatten
theorem isL_nils (s : Nat) : IsL .nils s [] := ⟨rfl, rfl, by simp, fun i => rfl, fun get n hn => by simp at hn; subst hn; rfl⟩
theorem isL_sl {L : List V} {s : Nat} {c : Option Nat} {cs : List (List V)} (hf : V.freeL L = true) (hc : L.map V.cells = cs) : IsL (.sl L s c) s cs := by
  subst hc
  refine ⟨hf, by simp [lenA], by simp, fun i => ?_, fun get n hn => ?_⟩
  · simp only [iaddrSA, ↓reduceIte, indexedI, Int.natCast_nonneg, Int.ofNat_lt, Int.toNat_natCast, List.getElem?_map]
    by_cases h : i < L.length
    · simp [h]
    · simp [h]
  · simp only [List.length_map] at hn
    simp only [firstA, ↓reduceIte, if_pos hn]
    congr 1
    rw [← List.map_take, List.flatMap_def]
theorem flat_length {s : Nat} : ∀ {cs : List (List V)}, (∀ c ∈ cs, c.length = s) → cs.flatten.length = cs.length * s
  | [], _ => by simp
  | c :: cs, h => by
    rw [List.flatten_cons, List.length_append, h c (by simp), flat_length (fun c hc => h c (by simp [hc])), List.length_cons, Nat.add_mul, Nat.one_mul, Nat.add_comm]
theorem flat_at {s : Nat} : ∀ {cs : List (List V)} {rest : List V} {i : Nat} {c : List V}, (∀ c ∈ cs, c.length = s) → cs[i]? = some c → ((cs.flatten ++ rest).drop (i * s)).take s = c
  | [], rest, i, c, _, h => by simp at h
  | c0 :: cs, rest, 0, c, hs, h => by
    simp only [List.getElem?_cons_zero, Option.some.injEq] at h
    subst h
    have := hs c0 (by simp)
    rw [Nat.zero_mul, List.drop_zero, List.flatten_cons, List.append_assoc, List.take_append_of_le_length (by omega), List.take_of_length_le (by omega)]
  | c0 :: cs, rest, i + 1, c, hs, h => by
    have h0 := hs c0 (by simp)
    rw [List.getElem?_cons_succ] at h
    rw [List.flatten_cons, List.append_assoc, show (i + 1) * s = c0.length + i * s by rw [h0, Nat.add_mul, Nat.one_mul, Nat.add_comm], List.drop_append, List.drop_eq_nil_of_le (by omega), List.nil_append]
    rw [show c0.length + i * s - c0.length = i * s by omega]
    exact flat_at (fun c hc => hs c (by simp [hc])) h
theorem flat_take {s : Nat} : ∀ {cs : List (List V)} {rest : List V} {n : Nat}, (∀ c ∈ cs, c.length = s) → n ≤ cs.length → (cs.flatten ++ rest).take (n * s) = (cs.take n).flatten
  | cs, rest, 0, _, _ => by simp
  | [], rest, n + 1, _, h => by simp at h
  | c0 :: cs, rest, n + 1, hs, h => by
    have h0 := hs c0 (by simp)
    rw [List.flatten_cons, List.append_assoc, show (n + 1) * s = c0.length + n * s by rw [h0, Nat.add_mul, Nat.one_mul, Nat.add_comm], List.take_append, List.take_of_length_le (by omega), show c0.length + n * s - c0.length = n * s by omega]
    rw [flat_take (fun c hc => hs c (by simp [hc])) (by simpa using h)]
    rfl
theorem mapM_shut_id {get : Nat → Option Ob} {d : Nat} {L : List V} (h : V.freeL L = true) : L.mapM (V.shut get (d + 1)) = some L := by
  refine mapM_free fun c hc => ?_
  induction L with
  | nil => cases hc
  | cons x L ih =>
    simp only [freeL_cons, Bool.and_eq_true] at h
    rcases List.mem_cons.1 hc with rfl | hc
    · exact h.1
    · exact ih h.2 hc
theorem allOne_ints (k : IntKind) (l : List Int) : (l.map (V.int k)).all V.oneCell = true := by
  induction l with
  | nil => rfl
  | cons x l ih => simp [V.oneCell, ih]
theorem firstA_sl {get : Nat → Option Ob} {L : List V} {s : Nat} {c : Option Nat} : firstA get s L.length (.sl L s c) = some (L.flatMap V.cells) := by
  simp [firstA]
theorem firstA_sl1 {get : Nat → Option Ob} {x : V} {s : Nat} {c : Option Nat} : firstA get s 1 (.sl [x] s c) = some x.cells := by
  simp [firstA]
theorem call_keep {p : AProg} {N n : Nat} {f : FuncId} {fn : AFunc} {args : List V} {h : Heap} {C : V → Heap → Prop} (hf : p[f]? = some (some fn)) (hm : fn.mode = .keep) (ha : args.length = fn.nargs) (hl : fn.nargs ≤ fn.nt)
    (H : wp ⟨pureOf p, callA p N n, N, h.length⟩ fn.body (fr fn.nt (argsF 0 args)) (h ++ deads fn.sites) (retQ fn.res C)) (hy : f ≠ YLD := by decide) : ∃ v h', callA p N (n + 1) f args h = some (v, h') ∧ C v h' := by
  obtain ⟨v, h', hb, hc⟩ := body_of_wp (by omega) H
  refine ⟨v, h', ?_, hc⟩
  unfold callA
  rw [if_neg hy]
  simp only [hf, ha, ↓reduceIte, hm, hb]
theorem call_keep_eq {p : AProg} {N n : Nat} {f : FuncId} {fn : AFunc} {args : List V} {h h' : Heap} {v : V} (hf : p[f]? = some (some fn)) (hm : fn.mode = .keep) (ha : args.length = fn.nargs) (hl : fn.nargs ≤ fn.nt)
    (H : wp ⟨pureOf p, callA p N n, N, h.length⟩ fn.body (fr fn.nt (argsF 0 args)) (h ++ deads fn.sites) (retQ fn.res fun x k => x = v ∧ k = h')) (hy : f ≠ YLD := by decide) : callA p N (n + 1) f args h = some (v, h') := by
  obtain ⟨x, k, h1, rfl, rfl⟩ := call_keep hf hm ha hl H hy
  exact h1
theorem app_get0 {h : Heap} {l : List Ob} : (h ++ l)[h.length]? = l[0]? := by rw [List.getElem?_append_right (Nat.le_refl _), Nat.sub_self]
theorem app_get {h : Heap} {l : List Ob} {k : Nat} : (h ++ l)[h.length + k]? = l[k]? := by rw [List.getElem?_append_right (by omega), Nat.add_sub_cancel_left]
theorem app_set0 {h : Heap} {l : List Ob} {x : Ob} : (h ++ l).set h.length x = h ++ l.set 0 x := by rw [List.set_append_right _ _ (Nat.le_refl _), Nat.sub_self]
theorem app_set {h : Heap} {l : List Ob} {k : Nat} {x : Ob} : (h ++ l).set (h.length + k) x = h ++ l.set k x := by rw [List.set_append_right _ _ (by omega), Nat.add_sub_cancel_left]
def wdK (E : Env) (n : Nat) (dst : Option Nat) (os : List (AOper × List Nat)) (fps : List Fp) (t : List V) (K : Cont) (v : V) (h : Heap) : Prop := wpd E n os fps (put t dst v) h K
theorem wpd_nil {E : Env} {n : Nat} {fps : List Fp} {t : List V} {h : Heap} {K : Cont} : wpd E n [] fps t h K = K t h := rfl
theorem wpd_cons {E : Env} {n : Nat} {dst : Option Nat} {op : AOp} {ps : List Nat} {os : List (AOper × List Nat)} {fps : List Fp} {t : List V} {h : Heap} {K : Cont} :
    wpd E n ((⟨dst, op, none⟩, ps) :: os) fps t h K = ((ps.all fun k => (fps.getD k .bar).ok n (fpOf E.pureF E.fb (ev t) h op)) = true ∧ wop E op t h (wdK E n dst os (fps ++ [fpOf E.pureF E.fb (ev t) h op]) t K)) := by
  have e : (ps.all fun k => (fps.getD k .bar).ok n (fpOf E.pureF E.fb (ev t) h op)) = (ps.all fun k => (fps.getD k .bar).ok n (fpAt E.pureF E.fb ⟨dst, op, none⟩ t h)) := rfl
  have e2 : fpOf E.pureF E.fb (ev t) h op = fpAt E.pureF E.fb ⟨dst, op, none⟩ t h := rfl
  rw [e, e2]
  unfold wpd
  simp only [runDraw]
  cases hc : (ps.all fun k => (fps.getD k .bar).ok n (fpAt E.pureF E.fb ⟨dst, op, none⟩ t h)) with
  | false => simp
  | true =>
    simp only [↓reduceIte, true_and, wop, wdK, wpd, stepOp, wanted]
    cases doOp E.call E.fb op (ev t) h <;> rfl
theorem wdK_def {E : Env} {n : Nat} {dst : Option Nat} {os : List (AOper × List Nat)} {fps : List Fp} {t : List V} {K : Cont} {v : V} {h : Heap} : wdK E n dst os fps t K v h = wpd E n os fps (put t dst v) h K := rfl
theorem sx_drawd {E : Env} {ops : List (AOper × List Nat)} {t : List V} {h : Heap} {Q : Post} (hp : plainD ops = false) : sx E (.draw ops) t h Q = wpd E.framed h.length ops [] t h (Q .norm) := by simp only [sx, hp]
theorem sr_nil {cs : List V} : setRange cs 0 [] = cs := by simp [setRange]
theorem sr_cons {a b : V} {cs bs : List V} : setRange (a :: cs) 0 (b :: bs) = b :: setRange cs 0 bs := by
  simp [setRange]
theorem sr_succ {a : V} {cs bs : List V} {n : Nat} : setRange (a :: cs) (n + 1) bs = a :: setRange cs n bs := by
  simp only [setRange, List.take_succ_cons, List.cons_append, List.cons.injEq, true_and]
  rw [show n + 1 + bs.length = (n + bs.length) + 1 by omega, List.drop_succ_cons]
theorem sr_all {cs bs : List V} (h : bs.length = cs.length) : setRange cs 0 bs = bs := by
  simp [setRange, ← h]
theorem sr_len {cs bs : List V} {n : Nat} (h : n + bs.length ≤ cs.length) : (setRange cs n bs).length = cs.length := setRange_length _ _ _ h
def cvP (E : Env) (f : V) (args : List V) (h : Heap) (C : V → Heap → Prop) : Prop :=
  match f with
  | .func g xs ys => if g = YLD then False else wcall (E.call g (xs ++ args ++ ys) h) C
  | .yld o ver => wcall (E.call YLD (.yld o ver :: args) h) C
  | _ => False
theorem wop_cv {E : Env} {f : Opd} {args : List Opd} {t : List V} {h : Heap} {C : V → Heap → Prop} : wop E (.callv f args) t h C = cvP E (ev t f) (args.map (ev t)) h C := by
  unfold wop cvP
  simp only [doOp]
  cases ev t f <;> try rfl
  simp only
  split <;> rfl
theorem cvP_func {E : Env} {g : FuncId} {xs ys args : List V} {h : Heap} {C : V → Heap → Prop} (hy : g ≠ 1000000007) : cvP E (.func g xs ys) args h C = wcall (E.call g (xs ++ args ++ ys) h) C := by
  have hy' : ¬ g = YLD := hy
  simp only [cvP, if_neg hy']
theorem freeL_of_mem : ∀ {l : List V}, (∀ c ∈ l, c.free = true) → V.freeL l = true
  | [], _ => rfl
  | c :: l, h => by rw [freeL_cons, h c (by simp), freeL_of_mem (fun d hd => h d (by simp [hd]))]; rfl
theorem freeL_mem : ∀ {l : List V}, V.freeL l = true → ∀ c ∈ l, c.free = true
  | [], _, c, hc => by cases hc
  | d :: l, h, c, hc => by
    simp only [freeL_cons, Bool.and_eq_true] at h
    rcases List.mem_cons.1 hc with rfl | hc
    · exact h.1
    · exact freeL_mem h.2 c hc
theorem freeL_ints (k : IntKind) (l : List Int) : V.freeL (l.map (V.int k)) = true := freeL_map _ (fun _ => rfl) _
end Go.Am


set_option linter.unusedVariables false
namespace Go.Am.T
def am3 : AFunc := { nargs := 2, nt := 305, sites := 9, mode := .auto, body := .seq (.seq (.region [⟨some 4, .move (.cst (.bool false)), none⟩]) (.clr [4])) (.seq (.seq (.region [⟨some 22, .move (.tmp 0), none⟩, ⟨some 23, .call 7 [.cst (.int .i64 0), .cst (.int .i64 1), .tmp 22], none⟩, ⟨some 21, .move (.tmp 23), none⟩, ⟨some 24, .extract (.tmp 21) 0, none⟩, ⟨some 25, .extract (.tmp 21) 1, none⟩, ⟨some 5, .move (.tmp 24), none⟩, ⟨some 6, .move (.tmp 25), none⟩]) (.clr [25, 24, 23, 22, 21])) (.seq (.seq (.region [⟨some 27, .move (.tmp 0), none⟩, ⟨some 28, .call 7 [.cst (.int .i64 1), .cst (.int .i64 0), .tmp 27], none⟩, ⟨some 26, .move (.tmp 28), none⟩, ⟨some 29, .extract (.tmp 26) 0, none⟩, ⟨some 30, .extract (.tmp 26) 1, none⟩, ⟨some 7, .move (.tmp 29), none⟩, ⟨some 8, .move (.tmp 30), none⟩]) (.clr [30, 29, 28, 27, 26])) (.seq (.seq (.seq (.region [⟨some 31, .move (.tmp 6), none⟩, ⟨some 32, .bin .neq (.tmp 31) (.cst (.int .i64 0)), none⟩, ⟨some 33, .move (.tmp 32), none⟩, ⟨some 34, .move (.tmp 8), some (33, false)⟩, ⟨some 35, .bin .neq (.tmp 34) (.cst (.int .i64 0)), some (33, false)⟩, ⟨some 36, .pick (.tmp 33) (.cst (.bool true)) (.tmp 35), none⟩, ⟨some 37, .move (.tmp 36), none⟩, ⟨some 38, .move (.tmp 1), some (37, false)⟩, ⟨some 39, .lenS (.tmp 38), some (37, false)⟩, ⟨some 40, .bin .gtr (.tmp 39) (.cst (.int .i64 80)), some (37, false)⟩, ⟨some 41, .pick (.tmp 37) (.cst (.bool true)) (.tmp 40), none⟩]) (.clr [40, 39, 38, 37, 36, 35, 34, 33, 32, 31])) (.cond (.tmp 41) (.seq (.clr [41, 7, 5, 1]) (.seq (.seq (.region [⟨some 42, .move (.tmp 6), none⟩, ⟨some 43, .bin .eql (.tmp 42) (.cst (.int .i64 0)), none⟩, ⟨some 44, .move (.tmp 0), none⟩, ⟨some 45, .call 8 [.cst (.int .i64 0), .cst (.int .i64 1), .tmp 44], none⟩, ⟨some 46, .eqc false false [.b] (.tmp 43) (.tmp 45), none⟩, ⟨some 47, .move (.tmp 46), none⟩, ⟨some 48, .move (.tmp 6), some (47, true)⟩, ⟨some 49, .move (.tmp 8), some (47, true)⟩, ⟨some 50, .bin .eql (.tmp 48) (.tmp 49), some (47, true)⟩, ⟨some 51, .pick (.tmp 47) (.tmp 50) (.cst (.bool false)), none⟩, ⟨some 52, .move (.tmp 51), none⟩, ⟨some 53, .call 9 [], some (52, true)⟩, ⟨some 54, .pick (.tmp 52) (.tmp 53) (.cst (.bool false)), none⟩, ⟨some 4, .move (.tmp 54), none⟩]) (.clr [54, 53, 52, 51, 50, 49, 48, 47, 46, 45, 44, 43, 42, 8, 6, 0])) .ret)) (.seq (.clr [41, 8, 6, 0]) .skip))) (.seq (.seq (.region [⟨some 55, .move (.tmp 5), none⟩, ⟨some 56, .move (.tmp 7), none⟩, ⟨some 57, .build [.nilp, .nilp] [(0, 1, .tmp 55), (1, 1, .tmp 56)], none⟩, ⟨some 58, .build [.nilp, .nilp, .nils, .nils, .nils, .nils, .nils] [(0, 2, .tmp 57)], none⟩, ⟨some 59, .box 0 (.tmp 58), none⟩, ⟨some 9, .move (.tmp 59), none⟩]) (.clr [59, 58, 57, 56, 55, 7, 5])) (.seq (.seq (.region [⟨some 10, .move (.cst (.int .i64 0)), none⟩]) (.block 0 (.loop [] [] (.fresh 9 (.seq (.seq (.seq (.region [⟨some 60, .move (.tmp 10), none⟩, ⟨some 61, .move (.tmp 1), none⟩, ⟨some 62, .lenS (.tmp 61), none⟩, ⟨some 63, .bin .lss (.tmp 60) (.tmp 62), none⟩]) (.clr [62, 61, 60])) (.cond (.tmp 63) (.seq (.clr [63]) .skip) (.seq (.clr [63, 10, 1]) (.exit 0)))) (.seq (.block 1 (.seq (.seq (.region [⟨some 66, .move (.tmp 1), none⟩, ⟨some 67, .move (.tmp 10), none⟩, ⟨some 68, .iaddrS 4 (.tmp 66) (.tmp 67), none⟩, ⟨some 69, .load (some 4) (.tmp 68), none⟩, ⟨some 11, .allocz 1 [.int .i64 0, .int .i64 0, .int .i64 0, .nils], none⟩, ⟨none, .store 4 (.tmp 11) (.tmp 69), none⟩]) (.clr [69, 68, 67, 66])) (.seq (.seq (.region [⟨some 70, .faddr 1 (.tmp 11), none⟩, ⟨some 71, .load none (.tmp 70), none⟩, ⟨some 72, .bin .and (.tmp 71) (.cst (.int .i64 1)), none⟩, ⟨some 12, .move (.tmp 72), none⟩]) (.clr [72, 71, 70])) (.seq (.block 2 (.seq (.seq (.region [⟨some 74, .faddr 0 (.tmp 11), none⟩, ⟨some 75, .load none (.tmp 74), none⟩, ⟨some 76, .bin .eql (.tmp 75) (.cst (.int .i64 1)), none⟩, ⟨some 73, .move (.tmp 76), none⟩]) (.clr [76, 75, 74])) (.cond (.tmp 73) (.seq (.clr [73]) (.seq (.seq (.region [⟨some 77, .move (.tmp 9), none⟩, ⟨some 78, .move (.tmp 12), none⟩, ⟨some 79, .nilck (.tmp 77), none⟩, ⟨some 80, .faddr 0 (.tmp 79), none⟩, ⟨some 81, .iaddrA 2 1 (.tmp 80) (.tmp 78), none⟩, ⟨some 82, .load none (.tmp 81), none⟩, ⟨some 83, .faddr 3 (.tmp 11), none⟩, ⟨some 84, .load none (.tmp 83), none⟩, ⟨some 85, .call 10 [.tmp 82, .tmp 84], none⟩, ⟨some 86, .bin .eql (.tmp 85) (.cst (.int .i64 0)), none⟩]) (.clr [85, 84, 83, 82, 81, 80, 79, 78, 77])) (.cond (.tmp 86) (.seq (.clr [86]) (.seq (.draw [(⟨some 87, .move (.tmp 9), none⟩, []), (⟨some 88, .move (.tmp 12), none⟩, []), (⟨some 89, .move (.tmp 9), none⟩, []), (⟨some 90, .move (.tmp 12), none⟩, []), (⟨some 91, .nilck (.tmp 89), none⟩, []), (⟨some 92, .faddr 3 (.tmp 91), none⟩, []), (⟨some 93, .iaddrA 2 1 (.tmp 92) (.tmp 90), none⟩, []), (⟨some 94, .load none (.tmp 93), none⟩, []), (⟨some 95, .faddr 3 (.tmp 11), none⟩, []), (⟨some 96, .load none (.tmp 95), none⟩, []), (⟨some 97, .append 2 1 1 (.cst .nils) (.tmp 96), none⟩, [7]), (⟨some 98, .bslice [.nils] 1 1 [(0, 1, .tmp 97)], none⟩, []), (⟨some 99, .append 3 1 24 (.tmp 94) (.tmp 98), none⟩, []), (⟨some 100, .nilck (.tmp 87), none⟩, []), (⟨some 101, .faddr 3 (.tmp 100), none⟩, []), (⟨some 102, .iaddrA 2 1 (.tmp 101) (.tmp 88), none⟩, []), (⟨none, .store 1 (.tmp 102) (.tmp 99), none⟩, [])]) (.clr [102, 101, 100, 99, 98, 97, 96, 95, 94, 93, 92, 91, 90, 89, 88, 87, 12, 11]))) (.seq (.clr [86, 12, 11]) .skip)))) (.seq (.clr [73]) (.seq (.seq (.region [⟨some 104, .faddr 0 (.tmp 11), none⟩, ⟨some 105, .load none (.tmp 104), none⟩, ⟨some 106, .bin .eql (.tmp 105) (.cst (.int .i64 2)), none⟩, ⟨some 103, .move (.tmp 106), none⟩]) (.clr [106, 105, 104])) (.cond (.tmp 103) (.seq (.clr [103, 11]) (.seq (.draw [(⟨some 107, .move (.tmp 9), none⟩, []), (⟨some 108, .move (.tmp 9), none⟩, []), (⟨some 109, .nilck (.tmp 108), none⟩, []), (⟨some 110, .faddr 2 (.tmp 109), none⟩, []), (⟨some 111, .load none (.tmp 110), none⟩, []), (⟨some 112, .move (.tmp 9), none⟩, []), (⟨some 113, .move (.tmp 12), none⟩, []), (⟨some 114, .nilck (.tmp 112), none⟩, []), (⟨some 115, .faddr 0 (.tmp 114), none⟩, []), (⟨some 116, .iaddrA 2 1 (.tmp 115) (.tmp 113), none⟩, []), (⟨some 117, .load none (.tmp 116), none⟩, []), (⟨some 118, .call 11 [.tmp 117], none⟩, [4]), (⟨some 119, .append 4 6 64 (.tmp 111) (.tmp 118), none⟩, []), (⟨some 120, .nilck (.tmp 107), none⟩, []), (⟨some 121, .faddr 2 (.tmp 120), none⟩, []), (⟨none, .store 1 (.tmp 121) (.tmp 119), none⟩, [])]) (.clr [121, 120, 119, 118, 117, 116, 115, 114, 113, 112, 111, 110, 109, 108, 107, 12]))) (.seq (.clr [103]) (.seq (.seq (.region [⟨some 123, .faddr 0 (.tmp 11), none⟩, ⟨some 124, .load none (.tmp 123), none⟩, ⟨some 125, .bin .eql (.tmp 124) (.cst (.int .i64 3)), none⟩, ⟨some 122, .move (.tmp 125), none⟩]) (.clr [125, 124, 123])) (.cond (.tmp 122) (.seq (.clr [122, 11]) (.seq (.draw [(⟨some 126, .move (.tmp 9), none⟩, []), (⟨some 127, .move (.tmp 9), none⟩, []), (⟨some 128, .nilck (.tmp 127), none⟩, []), (⟨some 129, .faddr 2 (.tmp 128), none⟩, []), (⟨some 130, .load none (.tmp 129), none⟩, []), (⟨some 131, .move (.tmp 9), none⟩, []), (⟨some 132, .move (.tmp 12), none⟩, []), (⟨some 133, .nilck (.tmp 131), none⟩, []), (⟨some 134, .faddr 0 (.tmp 133), none⟩, []), (⟨some 135, .iaddrA 2 1 (.tmp 134) (.tmp 132), none⟩, []), (⟨some 136, .load none (.tmp 135), none⟩, []), (⟨some 137, .call 12 [.tmp 136], none⟩, [4]), (⟨some 138, .append 5 6 64 (.tmp 130) (.tmp 137), none⟩, []), (⟨some 139, .nilck (.tmp 126), none⟩, []), (⟨some 140, .faddr 2 (.tmp 139), none⟩, []), (⟨none, .store 1 (.tmp 140) (.tmp 138), none⟩, [])]) (.clr [140, 139, 138, 137, 136, 135, 134, 133, 132, 131, 130, 129, 128, 127, 126, 12]))) (.seq (.clr [122, 12]) (.seq (.seq (.region [⟨some 142, .faddr 0 (.tmp 11), none⟩, ⟨some 143, .load none (.tmp 142), none⟩, ⟨some 144, .bin .geq (.tmp 143) (.cst (.int .i64 4)), none⟩, ⟨some 145, .move (.tmp 144), none⟩, ⟨some 146, .faddr 0 (.tmp 11), some (145, true)⟩, ⟨some 147, .load none (.tmp 146), some (145, true)⟩, ⟨some 148, .bin .leq (.tmp 147) (.cst (.int .i64 6)), some (145, true)⟩, ⟨some 149, .pick (.tmp 145) (.tmp 148) (.cst (.bool false)), none⟩, ⟨some 150, .move (.tmp 149), none⟩, ⟨some 151, .faddr 2 (.tmp 11), some (150, true)⟩, ⟨some 152, .load none (.tmp 151), some (150, true)⟩, ⟨some 153, .bin .geq (.tmp 152) (.cst (.int .i64 0)), some (150, true)⟩, ⟨some 154, .pick (.tmp 150) (.tmp 153) (.cst (.bool false)), none⟩, ⟨some 155, .move (.tmp 154), none⟩, ⟨some 156, .faddr 2 (.tmp 11), some (155, true)⟩, ⟨some 157, .load none (.tmp 156), some (155, true)⟩, ⟨some 158, .move (.tmp 9), some (155, true)⟩, ⟨some 159, .nilck (.tmp 158), some (155, true)⟩, ⟨some 160, .faddr 2 (.tmp 159), some (155, true)⟩, ⟨some 161, .load none (.tmp 160), some (155, true)⟩, ⟨some 162, .lenS (.tmp 161), some (155, true)⟩, ⟨some 163, .bin .lss (.tmp 157) (.tmp 162), some (155, true)⟩, ⟨some 164, .pick (.tmp 155) (.tmp 163) (.cst (.bool false)), none⟩, ⟨some 141, .move (.tmp 164), none⟩]) (.clr [164, 163, 162, 161, 160, 159, 158, 157, 156, 155, 154, 153, 152, 151, 150, 149, 148, 147, 146, 145, 144, 143, 142])) (.cond (.tmp 141) (.seq (.clr [141]) (.seq (.seq (.draw [(⟨some 165, .move (.tmp 9), none⟩, []), (⟨some 166, .nilck (.tmp 165), none⟩, []), (⟨some 167, .faddr 2 (.tmp 166), none⟩, []), (⟨some 168, .load none (.tmp 167), none⟩, []), (⟨some 169, .faddr 2 (.tmp 11), none⟩, []), (⟨some 170, .load none (.tmp 169), none⟩, []), (⟨some 171, .iaddrS 6 (.tmp 168) (.tmp 170), none⟩, []), (⟨some 172, .load (some 6) (.tmp 171), none⟩, []), (⟨some 13, .allocz 6 [.int .i64 0, .int .i64 0, .int .i64 0, .int .i64 0, .int .i64 0, .nils], none⟩, [3, 5, 7]), (⟨none, .store 6 (.tmp 13) (.tmp 172), none⟩, [])]) (.clr [172, 171, 170, 169, 168, 167, 166, 165])) (.seq (.seq (.seq (.region [⟨some 173, .faddr 0 (.tmp 11), none⟩, ⟨some 174, .load none (.tmp 173), none⟩, ⟨some 175, .bin .neq (.tmp 174) (.cst (.int .i64 5)), none⟩]) (.clr [174, 173])) (.cond (.tmp 175) (.seq (.clr [175]) (.seq (.region [⟨some 14, .move (.cst .nils), none⟩]) (.seq (.seq (.region [⟨some 176, .move (.tmp 14), none⟩, ⟨some 177, .move (.tmp 9), none⟩, ⟨some 178, .nilck (.tmp 177), none⟩, ⟨some 179, .faddr 2 (.tmp 178), none⟩, ⟨some 180, .load none (.tmp 179), none⟩, ⟨some 181, .faddr 2 (.tmp 11), none⟩, ⟨some 182, .load none (.tmp 181), none⟩, ⟨some 183, .slS 6 (.tmp 180) none (some (.tmp 182)) none, none⟩, ⟨some 184, .append 7 6 64 (.tmp 176) (.tmp 183), none⟩, ⟨some 14, .move (.tmp 184), none⟩]) (.clr [184, 183, 182, 181, 180, 179, 178, 177, 176])) (.seq (.region [⟨some 185, .move (.tmp 9), none⟩, ⟨some 186, .move (.tmp 14), none⟩, ⟨some 187, .move (.tmp 9), none⟩, ⟨some 188, .nilck (.tmp 187), none⟩, ⟨some 189, .faddr 2 (.tmp 188), none⟩, ⟨some 190, .load none (.tmp 189), none⟩, ⟨some 191, .faddr 2 (.tmp 11), none⟩, ⟨some 192, .load none (.tmp 191), none⟩, ⟨some 193, .bin .add (.tmp 192) (.cst (.int .i64 1)), none⟩, ⟨some 194, .slS 6 (.tmp 190) (some (.tmp 193)) none none, none⟩, ⟨some 195, .append 8 6 64 (.tmp 186) (.tmp 194), none⟩, ⟨some 196, .nilck (.tmp 185), none⟩, ⟨some 197, .faddr 2 (.tmp 196), none⟩, ⟨none, .store 1 (.tmp 197) (.tmp 195), none⟩]) (.clr [197, 196, 195, 194, 193, 192, 191, 190, 189, 188, 187, 186, 185, 14]))))) (.seq (.clr [175]) .skip))) (.seq (.seq (.region [⟨some 198, .faddr 0 (.tmp 11), none⟩, ⟨some 199, .load none (.tmp 198), none⟩, ⟨some 200, .bin .neq (.tmp 199) (.cst (.int .i64 6)), none⟩]) (.clr [199, 198, 11])) (.cond (.tmp 200) (.seq (.clr [200]) (.seq (.region [⟨some 201, .move (.tmp 9), none⟩, ⟨some 202, .load (some 6) (.tmp 13), none⟩, ⟨some 203, .call 13 [.tmp 201, .tmp 202], none⟩]) (.clr [203, 202, 201, 13]))) (.seq (.clr [200, 13]) .skip)))))) (.seq (.clr [141, 11]) .skip))))))))))))) (.seq (.seq (.region [⟨some 204, .move (.tmp 9), none⟩, ⟨some 205, .call 14 [.tmp 204], none⟩, ⟨some 206, .un .not (.tmp 205), none⟩]) (.clr [205, 204])) (.cond (.tmp 206) (.seq (.clr [206, 10, 9, 1]) (.seq (.region [⟨some 4, .move (.cst (.bool false)), none⟩]) .ret)) (.seq (.clr [206]) .skip))))))) (.seq (.region [⟨some 64, .move (.tmp 10), none⟩, ⟨some 65, .bin .add (.tmp 64) (.cst (.int .i64 1)), none⟩, ⟨some 10, .move (.tmp 65), none⟩]) (.clr [65, 64])))))))) (.seq (.seq (.region [⟨some 15, .move (.cst (.int .i64 0)), none⟩]) (.block 3 (.loop [] [] (.seq (.seq (.seq (.region [⟨some 207, .move (.tmp 15), none⟩, ⟨some 208, .bin .lss (.tmp 207) (.cst (.int .i64 2)), none⟩]) (.clr [207])) (.cond (.tmp 208) (.seq (.clr [208]) .skip) (.seq (.clr [208, 15]) (.exit 3)))) (.seq (.block 4 (.seq (.region [⟨some 16, .move (.cst (.int .i64 0)), none⟩]) (.block 5 (.loop [] [] (.seq (.seq (.seq (.region [⟨some 211, .move (.tmp 16), none⟩, ⟨some 212, .bin .lss (.tmp 211) (.cst (.int .i64 2)), none⟩]) (.clr [211])) (.cond (.tmp 212) (.seq (.clr [212]) .skip) (.seq (.clr [212, 16]) (.exit 5)))) (.seq (.block 6 (.seq (.seq (.region [⟨some 215, .move (.tmp 9), none⟩, ⟨some 216, .move (.tmp 16), none⟩, ⟨some 217, .nilck (.tmp 215), none⟩, ⟨some 218, .faddr 0 (.tmp 217), none⟩, ⟨some 219, .iaddrA 2 1 (.tmp 218) (.tmp 216), none⟩, ⟨some 220, .load none (.tmp 219), none⟩, ⟨some 221, .call 12 [.tmp 220], none⟩, ⟨some 17, .move (.tmp 221), none⟩]) (.clr [221, 220, 219, 218, 217, 216, 215])) (.seq (.region [⟨some 18, .move (.cst (.int .i64 0)), none⟩]) (.block 7 (.loop [] [] (.seq (.seq (.seq (.region [⟨some 222, .move (.tmp 18), none⟩, ⟨some 223, .move (.tmp 17), none⟩, ⟨some 224, .lenS (.tmp 223), none⟩, ⟨some 225, .bin .lss (.tmp 222) (.tmp 224), none⟩]) (.clr [224, 223, 222])) (.cond (.tmp 225) (.seq (.clr [225]) .skip) (.seq (.clr [225, 18, 17]) (.exit 7)))) (.seq (.block 8 (.seq (.region [⟨some 228, .move (.tmp 9), none⟩, ⟨some 229, .move (.tmp 17), none⟩, ⟨some 230, .move (.tmp 18), none⟩, ⟨some 231, .iaddrS 6 (.tmp 229) (.tmp 230), none⟩, ⟨some 232, .load (some 6) (.tmp 231), none⟩, ⟨some 233, .call 13 [.tmp 228, .tmp 232], none⟩]) (.clr [233, 232, 231, 230, 229, 228]))) (.seq (.region [⟨some 226, .move (.tmp 18), none⟩, ⟨some 227, .bin .add (.tmp 226) (.cst (.int .i64 1)), none⟩, ⟨some 18, .move (.tmp 227), none⟩]) (.clr [227, 226]))))))))) (.seq (.region [⟨some 213, .move (.tmp 16), none⟩, ⟨some 214, .bin .add (.tmp 213) (.cst (.int .i64 1)), none⟩, ⟨some 16, .move (.tmp 214), none⟩]) (.clr [214, 213])))))))) (.seq (.region [⟨some 209, .move (.tmp 15), none⟩, ⟨some 210, .bin .add (.tmp 209) (.cst (.int .i64 1)), none⟩, ⟨some 15, .move (.tmp 210), none⟩]) (.clr [210, 209]))))))) (.seq (.seq (.region [⟨some 234, .move (.tmp 9), none⟩, ⟨some 235, .nilck (.tmp 234), none⟩, ⟨some 236, .faddr 0 (.tmp 235), none⟩, ⟨some 237, .iaddrA 2 1 (.tmp 236) (.cst (.int .i64 0)), none⟩, ⟨some 238, .load none (.tmp 237), none⟩, ⟨some 239, .call 12 [.tmp 238], none⟩, ⟨some 19, .move (.tmp 239), none⟩]) (.clr [239, 238, 237, 236, 235, 234])) (.seq (.seq (.region [⟨some 20, .move (.cst (.int .i64 0)), none⟩]) (.block 9 (.loop [] [] (.seq (.seq (.seq (.region [⟨some 240, .move (.tmp 20), none⟩, ⟨some 241, .move (.tmp 19), none⟩, ⟨some 242, .lenS (.tmp 241), none⟩, ⟨some 243, .bin .lss (.tmp 240) (.tmp 242), none⟩]) (.clr [242, 241, 240])) (.cond (.tmp 243) (.seq (.clr [243]) .skip) (.seq (.clr [243, 20, 19]) (.exit 9)))) (.seq (.block 10 (.seq (.region [⟨some 246, .move (.tmp 9), none⟩, ⟨some 247, .move (.tmp 19), none⟩, ⟨some 248, .move (.tmp 20), none⟩, ⟨some 249, .iaddrS 6 (.tmp 247) (.tmp 248), none⟩, ⟨some 250, .load (some 6) (.tmp 249), none⟩, ⟨some 251, .call 13 [.tmp 246, .tmp 250], none⟩]) (.clr [251, 250, 249, 248, 247, 246]))) (.seq (.region [⟨some 244, .move (.tmp 20), none⟩, ⟨some 245, .bin .add (.tmp 244) (.cst (.int .i64 1)), none⟩, ⟨some 20, .move (.tmp 245), none⟩]) (.clr [245, 244]))))))) (.seq (.seq (.region [⟨some 252, .move (.tmp 9), none⟩, ⟨some 253, .call 14 [.tmp 252], none⟩, ⟨some 254, .move (.tmp 253), none⟩, ⟨some 255, .move (.tmp 9), some (254, true)⟩, ⟨some 256, .nilck (.tmp 255), some (254, true)⟩, ⟨some 257, .faddr 5 (.tmp 256), some (254, true)⟩, ⟨some 258, .iaddrA 2 1 (.tmp 257) (.cst (.int .i64 0)), some (254, true)⟩, ⟨some 259, .load none (.tmp 258), some (254, true)⟩, ⟨some 260, .lenS (.tmp 259), some (254, true)⟩, ⟨some 261, .move (.tmp 9), some (254, true)⟩, ⟨some 262, .nilck (.tmp 261), some (254, true)⟩, ⟨some 263, .faddr 3 (.tmp 262), some (254, true)⟩, ⟨some 264, .iaddrA 2 1 (.tmp 263) (.cst (.int .i64 1)), some (254, true)⟩, ⟨some 265, .load none (.tmp 264), some (254, true)⟩, ⟨some 266, .lenS (.tmp 265), some (254, true)⟩, ⟨some 267, .bin .eql (.tmp 260) (.tmp 266), some (254, true)⟩, ⟨some 268, .pick (.tmp 254) (.tmp 267) (.cst (.bool false)), none⟩, ⟨some 269, .move (.tmp 268), none⟩, ⟨some 270, .move (.tmp 9), some (269, true)⟩, ⟨some 271, .nilck (.tmp 270), some (269, true)⟩, ⟨some 272, .faddr 5 (.tmp 271), some (269, true)⟩, ⟨some 273, .iaddrA 2 1 (.tmp 272) (.cst (.int .i64 1)), some (269, true)⟩, ⟨some 274, .load none (.tmp 273), some (269, true)⟩, ⟨some 275, .lenS (.tmp 274), some (269, true)⟩, ⟨some 276, .move (.tmp 9), some (269, true)⟩, ⟨some 277, .nilck (.tmp 276), some (269, true)⟩, ⟨some 278, .faddr 3 (.tmp 277), some (269, true)⟩, ⟨some 279, .iaddrA 2 1 (.tmp 278) (.cst (.int .i64 0)), some (269, true)⟩, ⟨some 280, .load none (.tmp 279), some (269, true)⟩, ⟨some 281, .lenS (.tmp 280), some (269, true)⟩, ⟨some 282, .bin .eql (.tmp 275) (.tmp 281), some (269, true)⟩, ⟨some 283, .pick (.tmp 269) (.tmp 282) (.cst (.bool false)), none⟩, ⟨some 284, .move (.tmp 283), none⟩, ⟨some 285, .move (.tmp 9), some (284, true)⟩, ⟨some 286, .nilck (.tmp 285), some (284, true)⟩, ⟨some 287, .faddr 0 (.tmp 286), some (284, true)⟩, ⟨some 288, .iaddrA 2 1 (.tmp 287) (.cst (.int .i64 0)), some (284, true)⟩, ⟨some 289, .load none (.tmp 288), some (284, true)⟩, ⟨some 290, .call 15 [.tmp 289], some (284, true)⟩, ⟨some 291, .bin .eql (.tmp 290) (.cst (.int .i64 0)), some (284, true)⟩, ⟨some 292, .pick (.tmp 284) (.tmp 291) (.cst (.bool false)), none⟩, ⟨some 293, .move (.tmp 292), none⟩, ⟨some 294, .move (.tmp 9), some (293, true)⟩, ⟨some 295, .nilck (.tmp 294), some (293, true)⟩, ⟨some 296, .faddr 0 (.tmp 295), some (293, true)⟩, ⟨some 297, .iaddrA 2 1 (.tmp 296) (.cst (.int .i64 1)), some (293, true)⟩, ⟨some 298, .load none (.tmp 297), some (293, true)⟩, ⟨some 299, .call 15 [.tmp 298], some (293, true)⟩, ⟨some 300, .bin .eql (.tmp 299) (.cst (.int .i64 0)), some (293, true)⟩, ⟨some 301, .pick (.tmp 293) (.tmp 300) (.cst (.bool false)), none⟩, ⟨some 302, .move (.tmp 301), none⟩, ⟨some 303, .call 9 [], some (302, true)⟩, ⟨some 304, .pick (.tmp 302) (.tmp 303) (.cst (.bool false)), none⟩, ⟨some 4, .move (.tmp 304), none⟩]) (.clr [304, 303, 302, 301, 300, 299, 298, 297, 296, 295, 294, 293, 292, 291, 290, 289, 288, 287, 286, 285, 284, 283, 282, 281, 280, 279, 278, 277, 276, 275, 274, 273, 272, 271, 270, 269, 268, 267, 266, 265, 264, 263, 262, 261, 260, 259, 258, 257, 256, 255, 254, 253, 252, 9])) .ret))))))))), res := [.tmp 4] }
def am4 : AFunc := { nargs := 2, nt := 255, sites := 4, mode := .auto, body := .seq (.seq (.region [⟨some 4, .move (.cst (.bool false)), none⟩]) (.clr [4])) (.seq (.seq (.region [⟨some 21, .move (.tmp 0), none⟩, ⟨some 22, .call 7 [.cst (.int .i64 0), .cst (.int .i64 1), .tmp 21], none⟩, ⟨some 20, .move (.tmp 22), none⟩, ⟨some 23, .extract (.tmp 20) 0, none⟩, ⟨some 24, .extract (.tmp 20) 1, none⟩, ⟨some 5, .move (.tmp 23), none⟩, ⟨some 6, .move (.tmp 24), none⟩]) (.clr [24, 23, 22, 21, 20])) (.seq (.seq (.region [⟨some 26, .move (.tmp 0), none⟩, ⟨some 27, .call 7 [.cst (.int .i64 1), .cst (.int .i64 0), .tmp 26], none⟩, ⟨some 25, .move (.tmp 27), none⟩, ⟨some 28, .extract (.tmp 25) 0, none⟩, ⟨some 29, .extract (.tmp 25) 1, none⟩, ⟨some 7, .move (.tmp 28), none⟩, ⟨some 8, .move (.tmp 29), none⟩]) (.clr [29, 28, 27, 26, 25])) (.seq (.seq (.seq (.region [⟨some 30, .move (.tmp 6), none⟩, ⟨some 31, .bin .neq (.tmp 30) (.cst (.int .i64 0)), none⟩, ⟨some 32, .move (.tmp 31), none⟩, ⟨some 33, .move (.tmp 8), some (32, false)⟩, ⟨some 34, .bin .neq (.tmp 33) (.cst (.int .i64 0)), some (32, false)⟩, ⟨some 35, .pick (.tmp 32) (.cst (.bool true)) (.tmp 34), none⟩, ⟨some 36, .move (.tmp 35), none⟩, ⟨some 37, .move (.tmp 1), some (36, false)⟩, ⟨some 38, .lenS (.tmp 37), some (36, false)⟩, ⟨some 39, .bin .gtr (.tmp 38) (.cst (.int .i64 60)), some (36, false)⟩, ⟨some 40, .pick (.tmp 36) (.cst (.bool true)) (.tmp 39), none⟩]) (.clr [39, 38, 37, 36, 35, 34, 33, 32, 31, 30])) (.cond (.tmp 40) (.seq (.clr [40, 7, 5, 1]) (.seq (.seq (.region [⟨some 41, .move (.tmp 6), none⟩, ⟨some 42, .bin .eql (.tmp 41) (.cst (.int .i64 0)), none⟩, ⟨some 43, .move (.tmp 0), none⟩, ⟨some 44, .call 8 [.cst (.int .i64 0), .cst (.int .i64 1), .tmp 43], none⟩, ⟨some 45, .eqc false false [.b] (.tmp 42) (.tmp 44), none⟩, ⟨some 46, .move (.tmp 45), none⟩, ⟨some 47, .move (.tmp 6), some (46, true)⟩, ⟨some 48, .move (.tmp 8), some (46, true)⟩, ⟨some 49, .bin .eql (.tmp 47) (.tmp 48), some (46, true)⟩, ⟨some 50, .pick (.tmp 46) (.tmp 49) (.cst (.bool false)), none⟩, ⟨some 51, .move (.tmp 50), none⟩, ⟨some 52, .call 9 [], some (51, true)⟩, ⟨some 53, .pick (.tmp 51) (.tmp 52) (.cst (.bool false)), none⟩, ⟨some 4, .move (.tmp 53), none⟩]) (.clr [53, 52, 51, 50, 49, 48, 47, 46, 45, 44, 43, 42, 41, 8, 6, 0])) .ret)) (.seq (.clr [40, 8, 6, 0]) .skip))) (.seq (.seq (.region [⟨some 54, .move (.tmp 5), none⟩, ⟨some 55, .move (.tmp 7), none⟩, ⟨some 56, .build [.nilp, .nilp] [(0, 1, .tmp 54), (1, 1, .tmp 55)], none⟩, ⟨some 57, .build [.nilp, .nilp, .nils, .nils, .nils, .nils, .nils] [(0, 2, .tmp 56)], none⟩, ⟨some 58, .box 0 (.tmp 57), none⟩, ⟨some 9, .move (.tmp 58), none⟩]) (.clr [58, 57, 56, 55, 54, 7, 5])) (.seq (.seq (.region [⟨some 10, .move (.cst (.int .i64 0)), none⟩]) (.block 0 (.loop [] [] (.fresh 4 (.seq (.seq (.seq (.region [⟨some 59, .move (.tmp 10), none⟩, ⟨some 60, .move (.tmp 1), none⟩, ⟨some 61, .lenS (.tmp 60), none⟩, ⟨some 62, .bin .lss (.tmp 59) (.tmp 61), none⟩]) (.clr [61, 60, 59])) (.cond (.tmp 62) (.seq (.clr [62]) .skip) (.seq (.clr [62, 10, 1]) (.exit 0)))) (.seq (.block 1 (.seq (.seq (.region [⟨some 65, .move (.tmp 1), none⟩, ⟨some 66, .move (.tmp 10), none⟩, ⟨some 67, .iaddrS 4 (.tmp 65) (.tmp 66), none⟩, ⟨some 68, .load (some 4) (.tmp 67), none⟩, ⟨some 11, .allocz 1 [.int .i64 0, .int .i64 0, .int .i64 0, .nils], none⟩, ⟨none, .store 4 (.tmp 11) (.tmp 68), none⟩]) (.clr [68, 67, 66, 65])) (.seq (.seq (.region [⟨some 69, .faddr 1 (.tmp 11), none⟩, ⟨some 70, .load none (.tmp 69), none⟩, ⟨some 71, .bin .and (.tmp 70) (.cst (.int .i64 1)), none⟩, ⟨some 12, .move (.tmp 71), none⟩]) (.clr [71, 70, 69])) (.seq (.seq (.seq (.region [⟨some 72, .faddr 0 (.tmp 11), none⟩, ⟨some 73, .load none (.tmp 72), none⟩, ⟨some 74, .bin .eql (.tmp 73) (.cst (.int .i64 1)), none⟩, ⟨some 75, .move (.tmp 74), none⟩, ⟨some 76, .move (.tmp 9), some (75, true)⟩, ⟨some 77, .move (.tmp 12), some (75, true)⟩, ⟨some 78, .nilck (.tmp 76), some (75, true)⟩, ⟨some 79, .faddr 0 (.tmp 78), some (75, true)⟩, ⟨some 80, .iaddrA 2 1 (.tmp 79) (.tmp 77), some (75, true)⟩, ⟨some 81, .load none (.tmp 80), some (75, true)⟩, ⟨some 82, .faddr 3 (.tmp 11), some (75, true)⟩, ⟨some 83, .load none (.tmp 82), some (75, true)⟩, ⟨some 84, .call 10 [.tmp 81, .tmp 83], some (75, true)⟩, ⟨some 85, .bin .eql (.tmp 84) (.cst (.int .i64 0)), some (75, true)⟩, ⟨some 86, .pick (.tmp 75) (.tmp 85) (.cst (.bool false)), none⟩]) (.clr [85, 84, 83, 82, 81, 80, 79, 78, 77, 76, 75, 74, 73, 72])) (.cond (.tmp 86) (.seq (.clr [86]) (.seq (.draw [(⟨some 87, .move (.tmp 9), none⟩, []), (⟨some 88, .move (.tmp 12), none⟩, []), (⟨some 89, .move (.tmp 9), none⟩, []), (⟨some 90, .move (.tmp 12), none⟩, []), (⟨some 91, .nilck (.tmp 89), none⟩, []), (⟨some 92, .faddr 3 (.tmp 91), none⟩, []), (⟨some 93, .iaddrA 2 1 (.tmp 92) (.tmp 90), none⟩, []), (⟨some 94, .load none (.tmp 93), none⟩, []), (⟨some 95, .faddr 3 (.tmp 11), none⟩, []), (⟨some 96, .load none (.tmp 95), none⟩, []), (⟨some 97, .append 2 1 1 (.cst .nils) (.tmp 96), none⟩, [7]), (⟨some 98, .bslice [.nils] 1 1 [(0, 1, .tmp 97)], none⟩, []), (⟨some 99, .append 3 1 24 (.tmp 94) (.tmp 98), none⟩, []), (⟨some 100, .nilck (.tmp 87), none⟩, []), (⟨some 101, .faddr 3 (.tmp 100), none⟩, []), (⟨some 102, .iaddrA 2 1 (.tmp 101) (.tmp 88), none⟩, []), (⟨none, .store 1 (.tmp 102) (.tmp 99), none⟩, [])]) (.clr [102, 101, 100, 99, 98, 97, 96, 95, 94, 93, 92, 91, 90, 89, 88, 87]))) (.seq (.clr [86]) .skip))) (.seq (.seq (.seq (.region [⟨some 103, .faddr 0 (.tmp 11), none⟩, ⟨some 104, .load none (.tmp 103), none⟩, ⟨some 105, .bin .eql (.tmp 104) (.cst (.int .i64 2)), none⟩, ⟨some 106, .move (.tmp 105), none⟩, ⟨some 107, .faddr 0 (.tmp 11), some (106, false)⟩, ⟨some 108, .load none (.tmp 107), some (106, false)⟩, ⟨some 109, .bin .eql (.tmp 108) (.cst (.int .i64 3)), some (106, false)⟩, ⟨some 110, .pick (.tmp 106) (.cst (.bool true)) (.tmp 109), none⟩]) (.clr [109, 108, 107, 106, 105, 104, 103])) (.cond (.tmp 110) (.seq (.clr [110]) (.seq (.seq (.region [⟨some 111, .move (.tmp 9), none⟩, ⟨some 112, .move (.tmp 12), none⟩, ⟨some 113, .nilck (.tmp 111), none⟩, ⟨some 114, .faddr 0 (.tmp 113), none⟩, ⟨some 115, .iaddrA 2 1 (.tmp 114) (.tmp 112), none⟩, ⟨some 116, .load none (.tmp 115), none⟩, ⟨some 117, .call 11 [.tmp 116], none⟩, ⟨some 13, .move (.tmp 117), none⟩]) (.clr [117, 116, 115, 114, 113, 112, 111])) (.seq (.region [⟨some 14, .move (.cst (.int .i64 0)), none⟩]) (.block 2 (.loop [] [] (.seq (.seq (.seq (.region [⟨some 118, .move (.tmp 14), none⟩, ⟨some 119, .move (.tmp 13), none⟩, ⟨some 120, .lenS (.tmp 119), none⟩, ⟨some 121, .bin .lss (.tmp 118) (.tmp 120), none⟩]) (.clr [120, 119, 118])) (.cond (.tmp 121) (.seq (.clr [121]) .skip) (.seq (.clr [121, 14, 13, 11]) (.exit 2)))) (.seq (.block 3 (.seq (.seq (.region [⟨some 124, .faddr 2 (.tmp 11), none⟩, ⟨some 125, .load none (.tmp 124), none⟩, ⟨some 126, .bin .lss (.tmp 125) (.cst (.int .i64 0)), none⟩, ⟨some 127, .move (.tmp 126), none⟩, ⟨some 128, .move (.tmp 14), some (127, false)⟩, ⟨some 129, .bin .rem (.tmp 128) (.cst (.int .i64 3)), some (127, false)⟩, ⟨some 130, .faddr 2 (.tmp 11), some (127, false)⟩, ⟨some 131, .load none (.tmp 130), some (127, false)⟩, ⟨some 132, .bin .rem (.tmp 131) (.cst (.int .i64 3)), some (127, false)⟩, ⟨some 133, .bin .neq (.tmp 129) (.tmp 132), some (127, false)⟩, ⟨some 134, .pick (.tmp 127) (.cst (.bool true)) (.tmp 133), none⟩]) (.clr [133, 132, 131, 130, 129, 128, 127, 126, 125, 124])) (.cond (.tmp 134) (.seq (.clr [134]) (.seq (.region [⟨some 135, .move (.tmp 9), none⟩, ⟨some 136, .move (.tmp 13), none⟩, ⟨some 137, .move (.tmp 14), none⟩, ⟨some 138, .iaddrS 6 (.tmp 136) (.tmp 137), none⟩, ⟨some 139, .load (some 6) (.tmp 138), none⟩, ⟨some 140, .call 13 [.tmp 135, .tmp 139], none⟩]) (.clr [140, 139, 138, 137, 136, 135]))) (.seq (.clr [134]) .skip)))) (.seq (.region [⟨some 122, .move (.tmp 14), none⟩, ⟨some 123, .bin .add (.tmp 122) (.cst (.int .i64 1)), none⟩, ⟨some 14, .move (.tmp 123), none⟩]) (.clr [123, 122]))))))))) (.seq (.clr [110, 11]) .skip))) (.seq (.seq (.region [⟨some 141, .move (.tmp 9), none⟩, ⟨some 142, .move (.tmp 12), none⟩, ⟨some 143, .nilck (.tmp 141), none⟩, ⟨some 144, .faddr 0 (.tmp 143), none⟩, ⟨some 145, .iaddrA 2 1 (.tmp 144) (.tmp 142), none⟩, ⟨some 146, .load none (.tmp 145), none⟩, ⟨some 147, .call 15 [.tmp 146], none⟩, ⟨some 15, .move (.tmp 147), none⟩]) (.clr [147, 146, 145, 144, 143, 142, 141])) (.seq (.seq (.region [⟨some 148, .move (.tmp 9), none⟩, ⟨some 149, .move (.tmp 12), none⟩, ⟨some 150, .nilck (.tmp 148), none⟩, ⟨some 151, .faddr 3 (.tmp 150), none⟩, ⟨some 152, .iaddrA 2 1 (.tmp 151) (.tmp 149), none⟩, ⟨some 153, .load none (.tmp 152), none⟩, ⟨some 154, .lenS (.tmp 153), none⟩, ⟨some 155, .move (.tmp 15), none⟩, ⟨some 156, .bin .sub (.tmp 154) (.tmp 155), none⟩, ⟨some 16, .move (.tmp 156), none⟩]) (.clr [156, 155, 154, 153, 152, 151, 150, 149, 148])) (.seq (.seq (.region [⟨some 157, .move (.tmp 9), none⟩, ⟨some 158, .move (.tmp 12), none⟩, ⟨some 159, .nilck (.tmp 157), none⟩, ⟨some 160, .faddr 0 (.tmp 159), none⟩, ⟨some 161, .iaddrA 2 1 (.tmp 160) (.tmp 158), none⟩, ⟨some 162, .load none (.tmp 161), none⟩, ⟨some 163, .call 16 [.tmp 162], none⟩, ⟨some 17, .move (.tmp 163), none⟩]) (.clr [163, 162, 161, 160, 159, 158, 157])) (.seq (.seq (.region [⟨some 164, .move (.tmp 17), none⟩, ⟨some 165, .call 12 [.tmp 164], none⟩, ⟨some 18, .move (.tmp 165), none⟩]) (.clr [165, 164, 17])) (.seq (.seq (.seq (.region [⟨some 166, .move (.tmp 15), none⟩, ⟨some 167, .bin .gtr (.tmp 166) (.cst (.int .i64 0)), none⟩, ⟨some 168, .move (.tmp 167), none⟩, ⟨some 169, .move (.tmp 18), some (168, true)⟩, ⟨some 170, .lenS (.tmp 169), some (168, true)⟩, ⟨some 171, .move (.tmp 15), some (168, true)⟩, ⟨some 172, .bin .neq (.tmp 170) (.tmp 171), some (168, true)⟩, ⟨some 173, .pick (.tmp 168) (.tmp 172) (.cst (.bool false)), none⟩, ⟨some 174, .move (.tmp 173), none⟩, ⟨some 175, .move (.tmp 15), some (174, false)⟩, ⟨some 176, .bin .eql (.tmp 175) (.cst (.int .i64 0)), some (174, false)⟩, ⟨some 177, .move (.tmp 176), some (174, false)⟩, ⟨some 178, .move (.tmp 18), some (177, true)⟩, ⟨some 179, .lenS (.tmp 178), some (177, true)⟩, ⟨some 180, .bin .gtr (.tmp 179) (.cst (.int .i64 1)), some (177, true)⟩, ⟨some 181, .pick (.tmp 177) (.tmp 180) (.cst (.bool false)), some (174, false)⟩, ⟨some 182, .pick (.tmp 174) (.cst (.bool true)) (.tmp 181), none⟩, ⟨some 183, .move (.tmp 182), none⟩, ⟨some 184, .move (.tmp 16), some (183, false)⟩, ⟨some 185, .bin .lss (.tmp 184) (.cst (.int .i64 0)), some (183, false)⟩, ⟨some 186, .pick (.tmp 183) (.cst (.bool true)) (.tmp 185), none⟩, ⟨some 187, .move (.tmp 186), none⟩, ⟨some 188, .move (.tmp 16), some (187, false)⟩, ⟨some 189, .move (.tmp 9), some (187, false)⟩, ⟨some 190, .move (.tmp 12), some (187, false)⟩, ⟨some 191, .bin .sub (.cst (.int .i64 1)) (.tmp 190), some (187, false)⟩, ⟨some 192, .nilck (.tmp 189), some (187, false)⟩, ⟨some 193, .faddr 0 (.tmp 192), some (187, false)⟩, ⟨some 194, .iaddrA 2 1 (.tmp 193) (.tmp 191), some (187, false)⟩, ⟨some 195, .load none (.tmp 194), some (187, false)⟩, ⟨some 196, .call 17 [.tmp 195], some (187, false)⟩, ⟨some 197, .bin .gtr (.tmp 188) (.tmp 196), some (187, false)⟩, ⟨some 198, .pick (.tmp 187) (.cst (.bool true)) (.tmp 197), none⟩]) (.clr [197, 196, 195, 194, 193, 192, 191, 190, 189, 188, 187, 186, 185, 184, 183, 182, 181, 180, 179, 178, 177, 176, 175, 174, 173, 172, 171, 170, 169, 168, 167, 166])) (.cond (.tmp 198) (.seq (.clr [198, 18, 16, 15, 12, 10, 9, 1]) (.seq (.region [⟨some 4, .move (.cst (.bool false)), none⟩]) .ret)) (.seq (.clr [198]) .skip))) (.seq (.region [⟨some 19, .move (.cst (.int .i64 0)), none⟩]) (.block 4 (.loop [] [] (.seq (.seq (.seq (.region [⟨some 199, .move (.tmp 19), none⟩, ⟨some 200, .move (.tmp 15), none⟩, ⟨some 201, .bin .lss (.tmp 199) (.tmp 200), none⟩]) (.clr [200, 199])) (.cond (.tmp 201) (.seq (.clr [201]) .skip) (.seq (.clr [201, 19, 18, 16, 15, 12]) (.exit 4)))) (.seq (.block 5 (.seq (.seq (.region [⟨some 204, .move (.tmp 18), none⟩, ⟨some 205, .move (.tmp 19), none⟩, ⟨some 206, .iaddrS 6 (.tmp 204) (.tmp 205), none⟩, ⟨some 207, .faddr 3 (.tmp 206), none⟩, ⟨some 208, .load none (.tmp 207), none⟩, ⟨some 209, .move (.tmp 16), none⟩, ⟨some 210, .move (.tmp 19), none⟩, ⟨some 211, .bin .add (.tmp 209) (.tmp 210), none⟩, ⟨some 212, .bin .add (.tmp 211) (.cst (.int .i64 1)), none⟩, ⟨some 213, .bin .neq (.tmp 208) (.tmp 212), none⟩, ⟨some 214, .move (.tmp 213), none⟩, ⟨some 215, .move (.tmp 18), some (214, false)⟩, ⟨some 216, .move (.tmp 19), some (214, false)⟩, ⟨some 217, .iaddrS 6 (.tmp 215) (.tmp 216), some (214, false)⟩, ⟨some 218, .faddr 5 (.tmp 217), some (214, false)⟩, ⟨some 219, .load none (.tmp 218), some (214, false)⟩, ⟨some 220, .b2s (.tmp 219), some (214, false)⟩, ⟨some 221, .move (.tmp 9), some (214, false)⟩, ⟨some 222, .move (.tmp 12), some (214, false)⟩, ⟨some 223, .nilck (.tmp 221), some (214, false)⟩, ⟨some 224, .faddr 3 (.tmp 223), some (214, false)⟩, ⟨some 225, .iaddrA 2 1 (.tmp 224) (.tmp 222), some (214, false)⟩, ⟨some 226, .load none (.tmp 225), some (214, false)⟩, ⟨some 227, .move (.tmp 16), some (214, false)⟩, ⟨some 228, .move (.tmp 19), some (214, false)⟩, ⟨some 229, .bin .add (.tmp 227) (.tmp 228), some (214, false)⟩, ⟨some 230, .iaddrS 1 (.tmp 226) (.tmp 229), some (214, false)⟩, ⟨some 231, .load none (.tmp 230), some (214, false)⟩, ⟨some 232, .b2s (.tmp 231), some (214, false)⟩, ⟨some 233, .bin .neq (.tmp 220) (.tmp 232), some (214, false)⟩, ⟨some 234, .pick (.tmp 214) (.cst (.bool true)) (.tmp 233), none⟩, ⟨some 235, .move (.tmp 234), none⟩, ⟨some 236, .move (.tmp 18), some (235, false)⟩, ⟨some 237, .move (.tmp 19), some (235, false)⟩, ⟨some 238, .iaddrS 6 (.tmp 236) (.tmp 237), some (235, false)⟩, ⟨some 239, .faddr 4 (.tmp 238), some (235, false)⟩, ⟨some 240, .load none (.tmp 239), some (235, false)⟩, ⟨some 241, .move (.tmp 9), some (235, false)⟩, ⟨some 242, .move (.tmp 12), some (235, false)⟩, ⟨some 243, .nilck (.tmp 241), some (235, false)⟩, ⟨some 244, .faddr 0 (.tmp 243), some (235, false)⟩, ⟨some 245, .iaddrA 2 1 (.tmp 244) (.tmp 242), some (235, false)⟩, ⟨some 246, .load none (.tmp 245), some (235, false)⟩, ⟨some 247, .call 17 [.tmp 246], some (235, false)⟩, ⟨some 248, .bin .neq (.tmp 240) (.tmp 247), some (235, false)⟩, ⟨some 249, .pick (.tmp 235) (.cst (.bool true)) (.tmp 248), none⟩]) (.clr [248, 247, 246, 245, 244, 243, 242, 241, 240, 239, 238, 237, 236, 235, 234, 233, 232, 231, 230, 229, 228, 227, 226, 225, 224, 223, 222, 221, 220, 219, 218, 217, 216, 215, 214, 213, 212, 211, 210, 209, 208, 207, 206, 205, 204])) (.cond (.tmp 249) (.seq (.clr [249, 19, 18, 16, 15, 12, 10, 9, 1]) (.seq (.region [⟨some 4, .move (.cst (.bool false)), none⟩]) .ret)) (.seq (.clr [249]) .skip)))) (.seq (.region [⟨some 202, .move (.tmp 19), none⟩, ⟨some 203, .bin .add (.tmp 202) (.cst (.int .i64 1)), none⟩, ⟨some 19, .move (.tmp 203), none⟩]) (.clr [203, 202]))))))))))))))))) (.seq (.region [⟨some 63, .move (.tmp 10), none⟩, ⟨some 64, .bin .add (.tmp 63) (.cst (.int .i64 1)), none⟩, ⟨some 10, .move (.tmp 64), none⟩]) (.clr [64, 63])))))))) (.seq (.seq (.region [⟨some 250, .move (.tmp 9), none⟩, ⟨some 251, .call 14 [.tmp 250], none⟩, ⟨some 252, .move (.tmp 251), none⟩, ⟨some 253, .call 9 [], some (252, true)⟩, ⟨some 254, .pick (.tmp 252) (.tmp 253) (.cst (.bool false)), none⟩, ⟨some 4, .move (.tmp 254), none⟩]) (.clr [254, 253, 252, 251, 250, 9])) .ret)))))), res := [.tmp 4] }
def am5 : AFunc := { nargs := 2, nt := 61, sites := 1, mode := .auto, body := .seq (.seq (.region [⟨some 3, .box 0 (.tmp 1), none⟩, ⟨some 4, .move (.cst (.bool false)), none⟩]) (.clr [4, 1])) (.seq (.seq (.seq (.region [⟨some 11, .move (.tmp 0), none⟩, ⟨some 12, .lenS (.tmp 11), none⟩, ⟨some 13, .bin .gtr (.tmp 12) (.cst (.int .i64 40)), none⟩]) (.clr [12, 11])) (.cond (.tmp 13) (.seq (.clr [13, 3, 0]) (.seq (.seq (.region [⟨some 14, .call 9 [], none⟩, ⟨some 4, .move (.tmp 14), none⟩]) (.clr [14])) .ret)) (.seq (.clr [13]) .skip))) (.seq (.seq (.region [⟨some 16, .call 7 [.cst (.int .i64 2), .cst (.int .i64 3), .cst (.int .i64 7)], none⟩, ⟨some 15, .move (.tmp 16), none⟩, ⟨some 17, .extract (.tmp 15) 0, none⟩, ⟨some 18, .extract (.tmp 15) 1, none⟩, ⟨some 5, .move (.tmp 17), none⟩, ⟨some 6, .move (.tmp 18), none⟩]) (.clr [18, 17, 16, 15])) (.seq (.seq (.seq (.region [⟨some 19, .move (.tmp 6), none⟩, ⟨some 20, .bin .neq (.tmp 19) (.cst (.int .i64 0)), none⟩]) (.clr [19, 6])) (.cond (.tmp 20) (.seq (.clr [20, 5, 3, 0]) (.seq (.region [⟨some 4, .move (.cst (.bool false)), none⟩]) .ret)) (.seq (.clr [20]) .skip))) (.seq (.seq (.region [⟨some 7, .move (.cst (.int .i64 0)), none⟩]) (.block 0 (.loop [] [] (.seq (.seq (.seq (.region [⟨some 21, .move (.tmp 7), none⟩, ⟨some 22, .move (.tmp 0), none⟩, ⟨some 23, .lenS (.tmp 22), none⟩, ⟨some 24, .bin .lss (.tmp 21) (.tmp 23), none⟩]) (.clr [23, 22, 21])) (.cond (.tmp 24) (.seq (.clr [24]) .skip) (.seq (.clr [24, 7, 0]) (.exit 0)))) (.seq (.block 1 (.seq (.region [⟨some 27, .move (.tmp 5), none⟩, ⟨some 28, .move (.tmp 0), none⟩, ⟨some 29, .move (.tmp 7), none⟩, ⟨some 30, .iaddrS 1 (.tmp 28) (.tmp 29), none⟩, ⟨some 31, .load none (.tmp 30), none⟩, ⟨some 32, .call 10 [.tmp 27, .tmp 31], none⟩]) (.clr [32, 31, 30, 29, 28, 27]))) (.seq (.region [⟨some 25, .move (.tmp 7), none⟩, ⟨some 26, .bin .add (.tmp 25) (.cst (.int .i64 1)), none⟩, ⟨some 7, .move (.tmp 26), none⟩]) (.clr [26, 25]))))))) (.seq (.seq (.region [⟨some 33, .move (.tmp 5), none⟩, ⟨some 34, .load (some 6) (.tmp 3), none⟩, ⟨some 35, .call 18 [.tmp 33, .tmp 34], none⟩]) (.clr [35, 34, 33])) (.seq (.seq (.region [⟨some 36, .move (.tmp 5), none⟩, ⟨some 37, .call 11 [.tmp 36], none⟩]) (.clr [37, 36])) (.seq (.seq (.region [⟨some 38, .move (.tmp 5), none⟩, ⟨some 39, .call 16 [.tmp 38], none⟩, ⟨some 8, .move (.tmp 39), none⟩]) (.clr [39, 38])) (.seq (.seq (.region [⟨some 41, .move (.tmp 5), none⟩, ⟨some 42, .load (some 6) (.tmp 3), none⟩, ⟨some 43, .call 18 [.tmp 41, .tmp 42], none⟩, ⟨some 40, .move (.tmp 43), none⟩, ⟨some 44, .extract (.tmp 40) 0, none⟩, ⟨some 45, .extract (.tmp 40) 1, none⟩, ⟨some 9, .move (.tmp 44), none⟩, ⟨some 10, .move (.tmp 45), none⟩]) (.clr [45, 44, 43, 42, 41, 40, 9, 3])) (.seq (.seq (.seq (.region [⟨some 46, .move (.tmp 10), none⟩, ⟨some 47, .move (.tmp 46), none⟩, ⟨some 48, .move (.tmp 8), some (47, false)⟩, ⟨some 49, .eqnil false (NK.p) (.tmp 48), some (47, false)⟩, ⟨some 50, .pick (.tmp 47) (.cst (.bool true)) (.tmp 49), none⟩]) (.clr [49, 48, 47, 46, 10])) (.cond (.tmp 50) (.seq (.clr [50, 8, 5]) (.seq (.region [⟨some 4, .move (.cst (.bool false)), none⟩]) .ret)) (.seq (.clr [50]) .skip))) (.seq (.seq (.seq (.region [⟨some 51, .move (.tmp 5), none⟩, ⟨some 52, .call 19 [.tmp 51], none⟩]) (.clr [51])) (.cond (.tmp 52) (.seq (.clr [52]) (.seq (.region [⟨some 53, .move (.tmp 5), none⟩, ⟨some 54, .call 11 [.tmp 53], none⟩]) (.clr [54, 53]))) (.seq (.clr [52]) .skip))) (.seq (.seq (.region [⟨some 55, .move (.tmp 5), none⟩, ⟨some 56, .move (.tmp 8), none⟩, ⟨some 57, .call 20 [.tmp 55, .tmp 56], none⟩, ⟨some 58, .move (.tmp 57), none⟩, ⟨some 59, .call 9 [], some (58, true)⟩, ⟨some 60, .pick (.tmp 58) (.tmp 59) (.cst (.bool false)), none⟩, ⟨some 4, .move (.tmp 60), none⟩]) (.clr [60, 59, 58, 57, 56, 55, 8, 5])) .ret))))))))))), res := [.tmp 4] }
def am7 : AFunc := { nargs := 3, nt := 34, sites := 1, mode := .keep, body := .seq (.seq (.region [⟨some 6, .move (.cst .nilp), none⟩, ⟨some 7, .move (.cst (.int .i64 0)), none⟩]) (.clr [7, 6])) (.seq (.seq (.seq (.region [⟨some 8, .move (.tmp 0), none⟩, ⟨some 9, .call 21 [.tmp 8], none⟩, ⟨some 10, .un .not (.tmp 9), none⟩, ⟨some 11, .move (.tmp 10), none⟩, ⟨some 12, .move (.tmp 1), some (11, false)⟩, ⟨some 13, .call 21 [.tmp 12], some (11, false)⟩, ⟨some 14, .un .not (.tmp 13), some (11, false)⟩, ⟨some 15, .pick (.tmp 11) (.cst (.bool true)) (.tmp 14), none⟩, ⟨some 16, .move (.tmp 15), none⟩, ⟨some 17, .move (.tmp 0), some (16, false)⟩, ⟨some 18, .move (.tmp 1), some (16, false)⟩, ⟨some 19, .bin .eql (.tmp 17) (.tmp 18), some (16, false)⟩, ⟨some 20, .pick (.tmp 16) (.cst (.bool true)) (.tmp 19), none⟩, ⟨some 21, .move (.tmp 20), none⟩, ⟨some 22, .move (.tmp 2), some (21, false)⟩, ⟨some 23, .bin .lss (.tmp 22) (.cst (.int .i64 0)), some (21, false)⟩, ⟨some 24, .pick (.tmp 21) (.cst (.bool true)) (.tmp 23), none⟩, ⟨some 25, .move (.tmp 24), none⟩, ⟨some 26, .move (.tmp 2), some (25, false)⟩, ⟨some 27, .bin .gtr (.tmp 26) (.cst (.int .i64 4611686018427387904)), some (25, false)⟩, ⟨some 28, .pick (.tmp 25) (.cst (.bool true)) (.tmp 27), none⟩]) (.clr [27, 26, 25, 24, 23, 22, 21, 20, 19, 18, 17, 16, 15, 14, 13, 12, 11, 10, 9, 8])) (.cond (.tmp 28) (.seq (.clr [28, 2, 1, 0]) (.seq (.region [⟨some 6, .move (.cst .nilp), none⟩, ⟨some 7, .move (.cst (.int .i64 2)), none⟩]) .ret)) (.seq (.clr [28]) .skip))) (.seq (.seq (.region [⟨some 29, .move (.tmp 0), none⟩, ⟨some 30, .move (.tmp 1), none⟩, ⟨some 31, .move (.tmp 2), none⟩, ⟨some 32, .build [.bool false, .int .i64 0, .int .i64 0, .int .i64 0, .nils, .int .i64 0, .int .i64 0, .int .i64 0, .bool false] [(0, 1, .cst (.bool true)), (1, 1, .tmp 29), (2, 1, .tmp 30), (3, 1, .tmp 31), (5, 1, .cst (.int .i64 1))], none⟩, ⟨some 33, .box 0 (.tmp 32), none⟩, ⟨some 6, .move (.tmp 33), none⟩, ⟨some 7, .move (.cst (.int .i64 0)), none⟩]) (.clr [33, 32, 31, 30, 29, 2, 1, 0])) .ret)), res := [.tmp 6, .tmp 7] }
def am8 : AFunc := { nargs := 3, nt := 34, sites := 0, mode := .pure, body := .seq (.seq (.region [⟨some 6, .move (.cst (.bool false)), none⟩]) (.clr [6])) (.seq (.seq (.region [⟨some 7, .move (.tmp 0), none⟩, ⟨some 8, .bin .geq (.tmp 7) (.cst (.int .i64 0)), none⟩, ⟨some 9, .move (.tmp 8), none⟩, ⟨some 10, .move (.tmp 0), some (9, true)⟩, ⟨some 11, .bin .lss (.tmp 10) (.cst (.int .i64 8)), some (9, true)⟩, ⟨some 12, .pick (.tmp 9) (.tmp 11) (.cst (.bool false)), none⟩, ⟨some 13, .move (.tmp 12), none⟩, ⟨some 14, .move (.tmp 1), some (13, true)⟩, ⟨some 15, .bin .geq (.tmp 14) (.cst (.int .i64 0)), some (13, true)⟩, ⟨some 16, .pick (.tmp 13) (.tmp 15) (.cst (.bool false)), none⟩, ⟨some 17, .move (.tmp 16), none⟩, ⟨some 18, .move (.tmp 1), some (17, true)⟩, ⟨some 19, .bin .lss (.tmp 18) (.cst (.int .i64 8)), some (17, true)⟩, ⟨some 20, .pick (.tmp 17) (.tmp 19) (.cst (.bool false)), none⟩, ⟨some 21, .move (.tmp 20), none⟩, ⟨some 22, .move (.tmp 0), some (21, true)⟩, ⟨some 23, .move (.tmp 1), some (21, true)⟩, ⟨some 24, .bin .neq (.tmp 22) (.tmp 23), some (21, true)⟩, ⟨some 25, .pick (.tmp 21) (.tmp 24) (.cst (.bool false)), none⟩, ⟨some 26, .move (.tmp 25), none⟩, ⟨some 27, .move (.tmp 2), some (26, true)⟩, ⟨some 28, .bin .geq (.tmp 27) (.cst (.int .i64 0)), some (26, true)⟩, ⟨some 29, .pick (.tmp 26) (.tmp 28) (.cst (.bool false)), none⟩, ⟨some 30, .move (.tmp 29), none⟩, ⟨some 31, .move (.tmp 2), some (30, true)⟩, ⟨some 32, .bin .leq (.tmp 31) (.cst (.int .i64 4611686018427387904)), some (30, true)⟩, ⟨some 33, .pick (.tmp 30) (.tmp 32) (.cst (.bool false)), none⟩, ⟨some 6, .move (.tmp 33), none⟩]) (.clr [33, 32, 31, 30, 29, 28, 27, 26, 25, 24, 23, 22, 21, 20, 19, 18, 17, 16, 15, 14, 13, 12, 11, 10, 9, 8, 7, 2, 1, 0])) .ret), res := [.tmp 6] }
def am9 : AFunc := { nargs := 0, nt := 218, sites := 2, mode := .pure, body := .seq (.seq (.region [⟨some 0, .move (.cst (.bool false)), none⟩]) (.clr [0])) (.seq (.seq (.region [⟨some 24, .call 7 [.cst (.int .i64 0), .cst (.int .i64 1), .cst (.int .i64 5)], none⟩, ⟨some 23, .move (.tmp 24), none⟩, ⟨some 25, .extract (.tmp 23) 0, none⟩, ⟨some 26, .extract (.tmp 23) 1, none⟩, ⟨some 1, .move (.tmp 25), none⟩, ⟨some 2, .move (.tmp 26), none⟩]) (.clr [26, 25, 24, 23])) (.seq (.seq (.region [⟨some 28, .call 7 [.cst (.int .i64 1), .cst (.int .i64 0), .cst (.int .i64 5)], none⟩, ⟨some 27, .move (.tmp 28), none⟩, ⟨some 29, .extract (.tmp 27) 0, none⟩, ⟨some 30, .extract (.tmp 27) 1, none⟩, ⟨some 3, .move (.tmp 29), none⟩, ⟨some 4, .move (.tmp 30), none⟩]) (.clr [30, 29, 28, 27])) (.seq (.seq (.region [⟨some 32, .call 7 [.cst (.int .i64 0), .cst (.int .i64 0), .cst (.int .i64 1)], none⟩, ⟨some 31, .move (.tmp 32), none⟩, ⟨some 33, .extract (.tmp 31) 0, none⟩, ⟨some 34, .extract (.tmp 31) 1, none⟩, ⟨some 5, .move (.tmp 33), none⟩, ⟨some 6, .move (.tmp 34), none⟩]) (.clr [34, 33, 32, 31, 5])) (.seq (.seq (.region [⟨some 36, .call 7 [.cst (.int .i64 0), .cst (.int .i64 8), .cst (.int .i64 1)], none⟩, ⟨some 35, .move (.tmp 36), none⟩, ⟨some 37, .extract (.tmp 35) 0, none⟩, ⟨some 38, .extract (.tmp 35) 1, none⟩, ⟨some 7, .move (.tmp 37), none⟩, ⟨some 8, .move (.tmp 38), none⟩]) (.clr [38, 37, 36, 35, 7])) (.seq (.seq (.seq (.region [⟨some 39, .move (.tmp 2), none⟩, ⟨some 40, .bin .neq (.tmp 39) (.cst (.int .i64 0)), none⟩, ⟨some 41, .move (.tmp 40), none⟩, ⟨some 42, .move (.tmp 4), some (41, false)⟩, ⟨some 43, .bin .neq (.tmp 42) (.cst (.int .i64 0)), some (41, false)⟩, ⟨some 44, .pick (.tmp 41) (.cst (.bool true)) (.tmp 43), none⟩, ⟨some 45, .move (.tmp 44), none⟩, ⟨some 46, .move (.tmp 6), some (45, false)⟩, ⟨some 47, .bin .neq (.tmp 46) (.cst (.int .i64 2)), some (45, false)⟩, ⟨some 48, .pick (.tmp 45) (.cst (.bool true)) (.tmp 47), none⟩, ⟨some 49, .move (.tmp 48), none⟩, ⟨some 50, .move (.tmp 8), some (49, false)⟩, ⟨some 51, .bin .neq (.tmp 50) (.cst (.int .i64 2)), some (49, false)⟩, ⟨some 52, .pick (.tmp 49) (.cst (.bool true)) (.tmp 51), none⟩, ⟨some 53, .move (.tmp 52), none⟩, ⟨some 54, .move (.tmp 1), some (53, false)⟩, ⟨some 55, .bnew 0 [.int .u8 0] 1 1 [(0, 1, .cst (.int .u8 120))], some (53, false)⟩, ⟨some 56, .mark (.tmp 55), some (53, false)⟩, ⟨some 57, .call 10 [.tmp 54, .tmp 56], some (53, false)⟩, ⟨some 58, .bin .neq (.tmp 57) (.cst (.int .i64 0)), some (53, false)⟩, ⟨some 59, .pick (.tmp 53) (.cst (.bool true)) (.tmp 58), none⟩, ⟨some 60, .move (.tmp 59), none⟩, ⟨some 61, .move (.tmp 1), some (60, false)⟩, ⟨some 62, .bnew 1 [.int .u8 0] 1 1 [(0, 1, .cst (.int .u8 121))], some (60, false)⟩, ⟨some 63, .mark (.tmp 62), some (60, false)⟩, ⟨some 64, .call 10 [.tmp 61, .tmp 63], some (60, false)⟩, ⟨some 65, .bin .neq (.tmp 64) (.cst (.int .i64 0)), some (60, false)⟩, ⟨some 66, .pick (.tmp 60) (.cst (.bool true)) (.tmp 65), none⟩]) (.clr [65, 64, 63, 62, 61, 60, 59, 58, 57, 56, 55, 54, 53, 52, 51, 50, 49, 48, 47, 46, 45, 44, 43, 42, 41, 40, 39, 8, 6, 4, 2])) (.cond (.tmp 66) (.seq (.clr [66, 3, 1]) (.seq (.region [⟨some 0, .move (.cst (.bool false)), none⟩]) .ret)) (.seq (.clr [66]) .skip))) (.seq (.seq (.region [⟨some 67, .move (.tmp 1), none⟩, ⟨some 68, .call 11 [.tmp 67], none⟩, ⟨some 9, .move (.tmp 68), none⟩]) (.clr [68, 67])) (.seq (.seq (.seq (.region [⟨some 69, .move (.tmp 9), none⟩, ⟨some 70, .lenS (.tmp 69), none⟩, ⟨some 71, .bin .neq (.tmp 70) (.cst (.int .i64 2)), none⟩, ⟨some 72, .move (.tmp 71), none⟩, ⟨some 73, .move (.tmp 1), some (72, false)⟩, ⟨some 74, .call 11 [.tmp 73], some (72, false)⟩, ⟨some 75, .lenS (.tmp 74), some (72, false)⟩, ⟨some 76, .bin .neq (.tmp 75) (.cst (.int .i64 0)), some (72, false)⟩, ⟨some 77, .pick (.tmp 72) (.cst (.bool true)) (.tmp 76), none⟩, ⟨some 78, .move (.tmp 77), none⟩, ⟨some 79, .move (.tmp 9), some (78, false)⟩, ⟨some 80, .iaddrS 6 (.tmp 79) (.cst (.int .i64 0)), some (78, false)⟩, ⟨some 81, .faddr 3 (.tmp 80), some (78, false)⟩, ⟨some 82, .load none (.tmp 81), some (78, false)⟩, ⟨some 83, .bin .neq (.tmp 82) (.cst (.int .i64 1)), some (78, false)⟩, ⟨some 84, .pick (.tmp 78) (.cst (.bool true)) (.tmp 83), none⟩, ⟨some 85, .move (.tmp 84), none⟩, ⟨some 86, .move (.tmp 9), some (85, false)⟩, ⟨some 87, .iaddrS 6 (.tmp 86) (.cst (.int .i64 1)), some (85, false)⟩, ⟨some 88, .faddr 3 (.tmp 87), some (85, false)⟩, ⟨some 89, .load none (.tmp 88), some (85, false)⟩, ⟨some 90, .bin .neq (.tmp 89) (.cst (.int .i64 2)), some (85, false)⟩, ⟨some 91, .pick (.tmp 85) (.cst (.bool true)) (.tmp 90), none⟩, ⟨some 92, .move (.tmp 91), none⟩, ⟨some 93, .move (.tmp 9), some (92, false)⟩, ⟨some 94, .iaddrS 6 (.tmp 93) (.cst (.int .i64 0)), some (92, false)⟩, ⟨some 95, .faddr 0 (.tmp 94), some (92, false)⟩, ⟨some 96, .load none (.tmp 95), some (92, false)⟩, ⟨some 97, .bin .neq (.tmp 96) (.cst (.int .i64 0)), some (92, false)⟩, ⟨some 98, .pick (.tmp 92) (.cst (.bool true)) (.tmp 97), none⟩, ⟨some 99, .move (.tmp 98), none⟩, ⟨some 100, .move (.tmp 9), some (99, false)⟩, ⟨some 101, .iaddrS 6 (.tmp 100) (.cst (.int .i64 0)), some (99, false)⟩, ⟨some 102, .faddr 1 (.tmp 101), some (99, false)⟩, ⟨some 103, .load none (.tmp 102), some (99, false)⟩, ⟨some 104, .bin .neq (.tmp 103) (.cst (.int .i64 1)), some (99, false)⟩, ⟨some 105, .pick (.tmp 99) (.cst (.bool true)) (.tmp 104), none⟩, ⟨some 106, .move (.tmp 105), none⟩, ⟨some 107, .move (.tmp 9), some (106, false)⟩, ⟨some 108, .iaddrS 6 (.tmp 107) (.cst (.int .i64 0)), some (106, false)⟩, ⟨some 109, .faddr 2 (.tmp 108), some (106, false)⟩, ⟨some 110, .load none (.tmp 109), some (106, false)⟩, ⟨some 111, .bin .neq (.tmp 110) (.cst (.int .i64 5)), some (106, false)⟩, ⟨some 112, .pick (.tmp 106) (.cst (.bool true)) (.tmp 111), none⟩]) (.clr [111, 110, 109, 108, 107, 106, 105, 104, 103, 102, 101, 100, 99, 98, 97, 96, 95, 94, 93, 92, 91, 90, 89, 88, 87, 86, 85, 84, 83, 82, 81, 80, 79, 78, 77, 76, 75, 74, 73, 72, 71, 70, 69])) (.cond (.tmp 112) (.seq (.clr [112, 9, 3, 1]) (.seq (.region [⟨some 0, .move (.cst (.bool false)), none⟩]) .ret)) (.seq (.clr [112]) .skip))) (.seq (.seq (.region [⟨some 114, .move (.tmp 3), none⟩, ⟨some 115, .move (.tmp 9), none⟩, ⟨some 116, .iaddrS 6 (.tmp 115) (.cst (.int .i64 1)), none⟩, ⟨some 117, .load (some 6) (.tmp 116), none⟩, ⟨some 118, .call 18 [.tmp 114, .tmp 117], none⟩, ⟨some 113, .move (.tmp 118), none⟩, ⟨some 119, .extract (.tmp 113) 0, none⟩, ⟨some 120, .extract (.tmp 113) 1, none⟩, ⟨some 10, .move (.tmp 119), none⟩, ⟨some 11, .move (.tmp 120), none⟩]) (.clr [120, 119, 118, 117, 116, 115, 114, 113, 10])) (.seq (.seq (.region [⟨some 122, .move (.tmp 3), none⟩, ⟨some 123, .move (.tmp 9), none⟩, ⟨some 124, .iaddrS 6 (.tmp 123) (.cst (.int .i64 0)), none⟩, ⟨some 125, .load (some 6) (.tmp 124), none⟩, ⟨some 126, .call 18 [.tmp 122, .tmp 125], none⟩, ⟨some 121, .move (.tmp 126), none⟩, ⟨some 127, .extract (.tmp 121) 0, none⟩, ⟨some 128, .extract (.tmp 121) 1, none⟩, ⟨some 12, .move (.tmp 127), none⟩, ⟨some 13, .move (.tmp 128), none⟩]) (.clr [128, 127, 126, 125, 124, 123, 122, 121])) (.seq (.seq (.region [⟨some 130, .move (.tmp 3), none⟩, ⟨some 131, .move (.tmp 9), none⟩, ⟨some 132, .iaddrS 6 (.tmp 131) (.cst (.int .i64 0)), none⟩, ⟨some 133, .load (some 6) (.tmp 132), none⟩, ⟨some 134, .call 18 [.tmp 130, .tmp 133], none⟩, ⟨some 129, .move (.tmp 134), none⟩, ⟨some 135, .extract (.tmp 129) 0, none⟩, ⟨some 136, .extract (.tmp 129) 1, none⟩, ⟨some 14, .move (.tmp 135), none⟩, ⟨some 15, .move (.tmp 136), none⟩]) (.clr [136, 135, 134, 133, 132, 131, 130, 129, 14])) (.seq (.seq (.region [⟨some 138, .move (.tmp 3), none⟩, ⟨some 139, .move (.tmp 9), none⟩, ⟨some 140, .iaddrS 6 (.tmp 139) (.cst (.int .i64 1)), none⟩, ⟨some 141, .load (some 6) (.tmp 140), none⟩, ⟨some 142, .call 18 [.tmp 138, .tmp 141], none⟩, ⟨some 137, .move (.tmp 142), none⟩, ⟨some 143, .extract (.tmp 137) 0, none⟩, ⟨some 144, .extract (.tmp 137) 1, none⟩, ⟨some 16, .move (.tmp 143), none⟩, ⟨some 17, .move (.tmp 144), none⟩]) (.clr [144, 143, 142, 141, 140, 139, 138, 137, 9])) (.seq (.seq (.region [⟨some 145, .move (.tmp 3), none⟩, ⟨some 146, .call 11 [.tmp 145], none⟩, ⟨some 18, .move (.tmp 146), none⟩]) (.clr [146, 145, 3])) (.seq (.seq (.seq (.region [⟨some 147, .move (.tmp 18), none⟩, ⟨some 148, .lenS (.tmp 147), none⟩, ⟨some 149, .bin .neq (.tmp 148) (.cst (.int .i64 1)), none⟩, ⟨some 150, .move (.tmp 149), none⟩, ⟨some 151, .move (.tmp 18), some (150, false)⟩, ⟨some 152, .iaddrS 6 (.tmp 151) (.cst (.int .i64 0)), some (150, false)⟩, ⟨some 153, .faddr 3 (.tmp 152), some (150, false)⟩, ⟨some 154, .load none (.tmp 153), some (150, false)⟩, ⟨some 155, .bin .neq (.tmp 154) (.cst (.int .i64 0)), some (150, false)⟩, ⟨some 156, .pick (.tmp 150) (.cst (.bool true)) (.tmp 155), none⟩, ⟨some 157, .move (.tmp 156), none⟩, ⟨some 158, .move (.tmp 18), some (157, false)⟩, ⟨some 159, .iaddrS 6 (.tmp 158) (.cst (.int .i64 0)), some (157, false)⟩, ⟨some 160, .faddr 4 (.tmp 159), some (157, false)⟩, ⟨some 161, .load none (.tmp 160), some (157, false)⟩, ⟨some 162, .bin .neq (.tmp 161) (.cst (.int .i64 2)), some (157, false)⟩, ⟨some 163, .pick (.tmp 157) (.cst (.bool true)) (.tmp 162), none⟩]) (.clr [162, 161, 160, 159, 158, 157, 156, 155, 154, 153, 152, 151, 150, 149, 148, 147])) (.cond (.tmp 163) (.seq (.clr [163, 18, 17, 16, 15, 13, 12, 11, 1]) (.seq (.region [⟨some 0, .move (.cst (.bool false)), none⟩]) .ret)) (.seq (.clr [163]) .skip))) (.seq (.seq (.region [⟨some 165, .move (.tmp 1), none⟩, ⟨some 166, .move (.tmp 18), none⟩, ⟨some 167, .iaddrS 6 (.tmp 166) (.cst (.int .i64 0)), none⟩, ⟨some 168, .load (some 6) (.tmp 167), none⟩, ⟨some 169, .call 18 [.tmp 165, .tmp 168], none⟩, ⟨some 164, .move (.tmp 169), none⟩, ⟨some 170, .extract (.tmp 164) 0, none⟩, ⟨some 171, .extract (.tmp 164) 1, none⟩, ⟨some 19, .move (.tmp 170), none⟩, ⟨some 20, .move (.tmp 171), none⟩]) (.clr [171, 170, 169, 168, 167, 166, 165, 164, 19])) (.seq (.seq (.region [⟨some 172, .move (.tmp 18), none⟩, ⟨some 173, .iaddrS 6 (.tmp 172) (.cst (.int .i64 0)), none⟩, ⟨some 174, .faddr 2 (.tmp 173), none⟩, ⟨none, .store 1 (.tmp 174) (.cst (.int .i64 6)), none⟩]) (.clr [174, 173, 172])) (.seq (.seq (.region [⟨some 176, .move (.tmp 1), none⟩, ⟨some 177, .move (.tmp 18), none⟩, ⟨some 178, .iaddrS 6 (.tmp 177) (.cst (.int .i64 0)), none⟩, ⟨some 179, .load (some 6) (.tmp 178), none⟩, ⟨some 180, .call 18 [.tmp 176, .tmp 179], none⟩, ⟨some 175, .move (.tmp 180), none⟩, ⟨some 181, .extract (.tmp 175) 0, none⟩, ⟨some 182, .extract (.tmp 175) 1, none⟩, ⟨some 21, .move (.tmp 181), none⟩, ⟨some 22, .move (.tmp 182), none⟩]) (.clr [182, 181, 180, 179, 178, 177, 176, 175, 21, 18])) (.seq (.seq (.region [⟨some 183, .move (.tmp 11), none⟩, ⟨some 184, .un .not (.tmp 183), none⟩, ⟨some 185, .move (.tmp 184), none⟩, ⟨some 186, .move (.tmp 12), some (185, true)⟩, ⟨some 187, .b2s (.tmp 186), some (185, true)⟩, ⟨some 188, .bin .eql (.tmp 187) (.cst (.str [120])), some (185, true)⟩, ⟨some 189, .pick (.tmp 185) (.tmp 188) (.cst (.bool false)), none⟩, ⟨some 190, .move (.tmp 189), none⟩, ⟨some 191, .move (.tmp 13), some (190, true)⟩, ⟨some 192, .pick (.tmp 190) (.tmp 191) (.cst (.bool false)), none⟩, ⟨some 193, .move (.tmp 192), none⟩, ⟨some 194, .move (.tmp 15), some (193, true)⟩, ⟨some 195, .un .not (.tmp 194), some (193, true)⟩, ⟨some 196, .pick (.tmp 193) (.tmp 195) (.cst (.bool false)), none⟩, ⟨some 197, .move (.tmp 196), none⟩, ⟨some 198, .move (.tmp 16), some (197, true)⟩, ⟨some 199, .b2s (.tmp 198), some (197, true)⟩, ⟨some 200, .bin .eql (.tmp 199) (.cst (.str [121])), some (197, true)⟩, ⟨some 201, .pick (.tmp 197) (.tmp 200) (.cst (.bool false)), none⟩, ⟨some 202, .move (.tmp 201), none⟩, ⟨some 203, .move (.tmp 17), some (202, true)⟩, ⟨some 204, .pick (.tmp 202) (.tmp 203) (.cst (.bool false)), none⟩, ⟨some 205, .move (.tmp 204), none⟩, ⟨some 206, .move (.tmp 20), some (205, true)⟩, ⟨some 207, .un .not (.tmp 206), some (205, true)⟩, ⟨some 208, .pick (.tmp 205) (.tmp 207) (.cst (.bool false)), none⟩, ⟨some 209, .move (.tmp 208), none⟩, ⟨some 210, .move (.tmp 22), some (209, true)⟩, ⟨some 211, .un .not (.tmp 210), some (209, true)⟩, ⟨some 212, .pick (.tmp 209) (.tmp 211) (.cst (.bool false)), none⟩, ⟨some 213, .move (.tmp 212), none⟩, ⟨some 214, .move (.tmp 1), some (213, true)⟩, ⟨some 215, .call 15 [.tmp 214], some (213, true)⟩, ⟨some 216, .bin .eql (.tmp 215) (.cst (.int .i64 0)), some (213, true)⟩, ⟨some 217, .pick (.tmp 213) (.tmp 216) (.cst (.bool false)), none⟩, ⟨some 0, .move (.tmp 217), none⟩]) (.clr [217, 216, 215, 214, 213, 212, 211, 210, 209, 208, 207, 206, 205, 204, 203, 202, 201, 200, 199, 198, 197, 196, 195, 194, 193, 192, 191, 190, 189, 188, 187, 186, 185, 184, 183, 22, 20, 17, 16, 15, 13, 12, 11, 1])) .ret))))))))))))))))), res := [.tmp 0] }
def am10 : AFunc := { nargs := 2, nt := 24, sites := 1, mode := .keep, body := .seq (.seq (.region [⟨some 4, .move (.cst (.int .i64 0)), none⟩]) (.clr [4])) (.seq (.block 0 (.seq (.seq (.region [⟨some 6, .move (.tmp 0), none⟩, ⟨some 7, .call 22 [.tmp 6], none⟩, ⟨some 8, .un .not (.tmp 7), none⟩, ⟨some 5, .move (.tmp 8), none⟩]) (.clr [8, 7, 6])) (.cond (.tmp 5) (.seq (.clr [5, 1, 0]) (.seq (.region [⟨some 4, .move (.cst (.int .i64 1)), none⟩]) .ret)) (.seq (.clr [5]) (.seq (.seq (.region [⟨some 10, .move (.tmp 1), none⟩, ⟨some 11, .lenS (.tmp 10), none⟩, ⟨some 12, .bin .gtr (.tmp 11) (.cst (.int .i64 256)), none⟩, ⟨some 9, .move (.tmp 12), none⟩]) (.clr [12, 11, 10])) (.cond (.tmp 9) (.seq (.clr [9, 1, 0]) (.seq (.region [⟨some 4, .move (.cst (.int .i64 3)), none⟩]) .ret)) (.seq (.clr [9]) .skip))))))) (.seq (.seq (.draw [(⟨some 13, .move (.tmp 0), none⟩, []), (⟨some 14, .move (.tmp 0), none⟩, []), (⟨some 15, .nilck (.tmp 14), none⟩, []), (⟨some 16, .faddr 4 (.tmp 15), none⟩, []), (⟨some 17, .load none (.tmp 16), none⟩, []), (⟨some 18, .move (.tmp 1), none⟩, []), (⟨some 19, .call 23 [.tmp 18], none⟩, [4]), (⟨some 20, .bslice [.nils] 1 1 [(0, 1, .tmp 19)], none⟩, []), (⟨some 21, .append 0 1 24 (.tmp 17) (.tmp 20), none⟩, []), (⟨some 22, .nilck (.tmp 13), none⟩, []), (⟨some 23, .faddr 4 (.tmp 22), none⟩, []), (⟨none, .store 1 (.tmp 23) (.tmp 21), none⟩, [])]) (.clr [23, 22, 21, 20, 19, 18, 17, 16, 15, 14, 13, 1, 0])) (.seq (.region [⟨some 4, .move (.cst (.int .i64 0)), none⟩]) .ret))), res := [.tmp 4] }
def am11 : AFunc := { nargs := 1, nt := 13, sites := 0, mode := .keep, body := .seq (.seq (.region [⟨some 2, .move (.cst .nils), none⟩]) (.clr [2])) (.seq (.seq (.seq (.region [⟨some 3, .move (.tmp 0), none⟩, ⟨some 4, .call 22 [.tmp 3], none⟩, ⟨some 5, .un .not (.tmp 4), none⟩]) (.clr [4, 3])) (.cond (.tmp 5) (.seq (.clr [5, 0]) (.seq (.region [⟨some 2, .move (.cst .nils), none⟩]) .ret)) (.seq (.clr [5]) .skip))) (.seq (.seq (.region [⟨some 6, .move (.tmp 0), none⟩, ⟨some 7, .move (.tmp 0), none⟩, ⟨some 8, .nilck (.tmp 7), none⟩, ⟨some 9, .faddr 6 (.tmp 8), none⟩, ⟨some 10, .load none (.tmp 9), none⟩, ⟨some 11, .bin .add (.tmp 10) (.cst (.int .i64 1)), none⟩, ⟨some 12, .call 24 [.tmp 6, .tmp 11], none⟩, ⟨some 2, .move (.tmp 12), none⟩]) (.clr [12, 11, 10, 9, 8, 7, 6, 0])) .ret)), res := [.tmp 2] }
def am12 : AFunc := { nargs := 1, nt := 12, sites := 0, mode := .keep, body := .seq (.seq (.region [⟨some 2, .move (.cst .nils), none⟩]) (.clr [2])) (.seq (.seq (.seq (.region [⟨some 3, .move (.tmp 0), none⟩, ⟨some 4, .call 22 [.tmp 3], none⟩, ⟨some 5, .un .not (.tmp 4), none⟩]) (.clr [4, 3])) (.cond (.tmp 5) (.seq (.clr [5, 0]) (.seq (.region [⟨some 2, .move (.cst .nils), none⟩]) .ret)) (.seq (.clr [5]) .skip))) (.seq (.seq (.region [⟨some 6, .move (.tmp 0), none⟩, ⟨some 7, .move (.tmp 0), none⟩, ⟨some 8, .nilck (.tmp 7), none⟩, ⟨some 9, .faddr 5 (.tmp 8), none⟩, ⟨some 10, .load none (.tmp 9), none⟩, ⟨some 11, .call 24 [.tmp 6, .tmp 10], none⟩, ⟨some 2, .move (.tmp 11), none⟩]) (.clr [11, 10, 9, 8, 7, 6, 0])) .ret)), res := [.tmp 2] }
def am13 : AFunc := { nargs := 2, nt := 43, sites := 2, mode := .keep, body := .seq (.seq (.region [⟨some 3, .box 0 (.tmp 1), none⟩]) (.clr [1])) (.seq (.seq (.seq (.region [⟨some 6, .faddr 1 (.tmp 3), none⟩, ⟨some 7, .load none (.tmp 6), none⟩, ⟨some 8, .bin .lss (.tmp 7) (.cst (.int .i64 0)), none⟩, ⟨some 9, .move (.tmp 8), none⟩, ⟨some 10, .faddr 1 (.tmp 3), some (9, false)⟩, ⟨some 11, .load none (.tmp 10), some (9, false)⟩, ⟨some 12, .bin .gtr (.tmp 11) (.cst (.int .i64 1)), some (9, false)⟩, ⟨some 13, .pick (.tmp 9) (.cst (.bool true)) (.tmp 12), none⟩]) (.clr [12, 11, 10, 9, 8, 7, 6])) (.cond (.tmp 13) (.seq (.clr [13, 3, 0]) .ret) (.seq (.clr [13]) .skip))) (.seq (.seq (.region [⟨some 15, .move (.tmp 0), none⟩, ⟨some 16, .faddr 1 (.tmp 3), none⟩, ⟨some 17, .load none (.tmp 16), none⟩, ⟨some 18, .nilck (.tmp 15), none⟩, ⟨some 19, .faddr 0 (.tmp 18), none⟩, ⟨some 20, .iaddrA 2 1 (.tmp 19) (.tmp 17), none⟩, ⟨some 21, .load none (.tmp 20), none⟩, ⟨some 22, .load (some 6) (.tmp 3), none⟩, ⟨some 23, .call 18 [.tmp 21, .tmp 22], none⟩, ⟨some 14, .move (.tmp 23), none⟩, ⟨some 24, .extract (.tmp 14) 0, none⟩, ⟨some 25, .extract (.tmp 14) 1, none⟩, ⟨some 4, .move (.tmp 24), none⟩, ⟨some 5, .move (.tmp 25), none⟩]) (.clr [25, 24, 23, 22, 21, 20, 19, 18, 17, 16, 15, 14])) (.seq (.seq (.region [⟨some 26, .move (.tmp 5), none⟩]) (.clr [5])) (.cond (.tmp 26) (.seq (.clr [26]) (.seq (.draw [(⟨some 27, .move (.tmp 0), none⟩, []), (⟨some 28, .faddr 1 (.tmp 3), none⟩, []), (⟨some 29, .load none (.tmp 28), none⟩, []), (⟨some 30, .move (.tmp 0), none⟩, []), (⟨some 31, .faddr 1 (.tmp 3), none⟩, []), (⟨some 32, .load none (.tmp 31), none⟩, []), (⟨some 33, .nilck (.tmp 30), none⟩, []), (⟨some 34, .faddr 5 (.tmp 33), none⟩, []), (⟨some 35, .iaddrA 2 1 (.tmp 34) (.tmp 32), none⟩, []), (⟨some 36, .load none (.tmp 35), none⟩, []), (⟨some 37, .move (.tmp 4), none⟩, []), (⟨some 38, .bslice [.nils] 1 1 [(0, 1, .tmp 37)], none⟩, []), (⟨some 39, .append 1 1 24 (.tmp 36) (.tmp 38), none⟩, [2]), (⟨some 40, .nilck (.tmp 27), none⟩, []), (⟨some 41, .faddr 5 (.tmp 40), none⟩, []), (⟨some 42, .iaddrA 2 1 (.tmp 41) (.tmp 29), none⟩, []), (⟨none, .store 1 (.tmp 42) (.tmp 39), none⟩, [])]) (.clr [42, 41, 40, 39, 38, 37, 36, 35, 34, 33, 32, 31, 30, 29, 28, 27, 4, 3, 0]))) (.seq (.clr [26, 4, 3, 0]) .skip))))), res := [] }
def am14 : AFunc := { nargs := 1, nt := 46, sites := 0, mode := .look, body := .seq (.seq (.region [⟨some 2, .move (.cst (.bool false)), none⟩]) (.clr [2])) (.seq (.seq (.region [⟨some 3, .move (.cst (.int .i64 0)), none⟩]) (.block 0 (.loop [] [] (.seq (.seq (.seq (.region [⟨some 7, .move (.tmp 3), none⟩, ⟨some 8, .bin .lss (.tmp 7) (.cst (.int .i64 2)), none⟩]) (.clr [7])) (.cond (.tmp 8) (.seq (.clr [8]) .skip) (.seq (.clr [8, 3, 0]) (.exit 0)))) (.seq (.block 1 (.seq (.seq (.region [⟨some 11, .move (.tmp 0), none⟩, ⟨some 12, .move (.tmp 3), none⟩, ⟨some 13, .nilck (.tmp 11), none⟩, ⟨some 14, .faddr 5 (.tmp 13), none⟩, ⟨some 15, .iaddrA 2 1 (.tmp 14) (.tmp 12), none⟩, ⟨some 16, .load none (.tmp 15), none⟩, ⟨some 17, .move (.tmp 0), none⟩, ⟨some 18, .move (.tmp 3), none⟩, ⟨some 19, .bin .sub (.cst (.int .i64 1)) (.tmp 18), none⟩, ⟨some 20, .nilck (.tmp 17), none⟩, ⟨some 21, .faddr 3 (.tmp 20), none⟩, ⟨some 22, .iaddrA 2 1 (.tmp 21) (.tmp 19), none⟩, ⟨some 23, .load none (.tmp 22), none⟩, ⟨some 4, .move (.tmp 16), none⟩, ⟨some 5, .move (.tmp 23), none⟩]) (.clr [23, 22, 21, 20, 19, 18, 17, 16, 15, 14, 13, 12, 11])) (.seq (.seq (.seq (.region [⟨some 24, .move (.tmp 4), none⟩, ⟨some 25, .lenS (.tmp 24), none⟩, ⟨some 26, .move (.tmp 5), none⟩, ⟨some 27, .lenS (.tmp 26), none⟩, ⟨some 28, .bin .gtr (.tmp 25) (.tmp 27), none⟩]) (.clr [27, 26, 25, 24])) (.cond (.tmp 28) (.seq (.clr [28, 5, 4, 3, 0]) (.seq (.region [⟨some 2, .move (.cst (.bool false)), none⟩]) .ret)) (.seq (.clr [28]) .skip))) (.seq (.region [⟨some 6, .move (.cst (.int .i64 0)), none⟩]) (.block 2 (.loop [] [] (.seq (.seq (.seq (.region [⟨some 29, .move (.tmp 6), none⟩, ⟨some 30, .move (.tmp 4), none⟩, ⟨some 31, .lenS (.tmp 30), none⟩, ⟨some 32, .bin .lss (.tmp 29) (.tmp 31), none⟩]) (.clr [31, 30, 29])) (.cond (.tmp 32) (.seq (.clr [32]) .skip) (.seq (.clr [32, 6, 5, 4]) (.exit 2)))) (.seq (.block 3 (.seq (.seq (.region [⟨some 35, .move (.tmp 4), none⟩, ⟨some 36, .move (.tmp 6), none⟩, ⟨some 37, .iaddrS 1 (.tmp 35) (.tmp 36), none⟩, ⟨some 38, .load none (.tmp 37), none⟩, ⟨some 39, .b2s (.tmp 38), none⟩, ⟨some 40, .move (.tmp 5), none⟩, ⟨some 41, .move (.tmp 6), none⟩, ⟨some 42, .iaddrS 1 (.tmp 40) (.tmp 41), none⟩, ⟨some 43, .load none (.tmp 42), none⟩, ⟨some 44, .b2s (.tmp 43), none⟩, ⟨some 45, .bin .neq (.tmp 39) (.tmp 44), none⟩]) (.clr [44, 43, 42, 41, 40, 39, 38, 37, 36, 35])) (.cond (.tmp 45) (.seq (.clr [45, 6, 5, 4, 3, 0]) (.seq (.region [⟨some 2, .move (.cst (.bool false)), none⟩]) .ret)) (.seq (.clr [45]) .skip)))) (.seq (.region [⟨some 33, .move (.tmp 6), none⟩, ⟨some 34, .bin .add (.tmp 33) (.cst (.int .i64 1)), none⟩, ⟨some 6, .move (.tmp 34), none⟩]) (.clr [34, 33])))))))))) (.seq (.region [⟨some 9, .move (.tmp 3), none⟩, ⟨some 10, .bin .add (.tmp 9) (.cst (.int .i64 1)), none⟩, ⟨some 3, .move (.tmp 10), none⟩]) (.clr [10, 9]))))))) (.seq (.region [⟨some 2, .move (.cst (.bool true)), none⟩]) .ret)), res := [.tmp 2] }
def am15 : AFunc := { nargs := 1, nt := 11, sites := 0, mode := .look, body := .seq (.seq (.region [⟨some 2, .move (.cst (.int .i64 0)), none⟩]) (.clr [2])) (.seq (.seq (.seq (.region [⟨some 3, .move (.tmp 0), none⟩, ⟨some 4, .call 22 [.tmp 3], none⟩, ⟨some 5, .un .not (.tmp 4), none⟩]) (.clr [4, 3])) (.cond (.tmp 5) (.seq (.clr [5, 0]) (.seq (.region [⟨some 2, .move (.cst (.int .i64 0)), none⟩]) .ret)) (.seq (.clr [5]) .skip))) (.seq (.seq (.region [⟨some 6, .move (.tmp 0), none⟩, ⟨some 7, .nilck (.tmp 6), none⟩, ⟨some 8, .faddr 4 (.tmp 7), none⟩, ⟨some 9, .load none (.tmp 8), none⟩, ⟨some 10, .lenS (.tmp 9), none⟩, ⟨some 2, .move (.tmp 10), none⟩]) (.clr [10, 9, 8, 7, 6, 0])) .ret)), res := [.tmp 2] }
def am16 : AFunc := { nargs := 1, nt := 30, sites := 2, mode := .keep, body := .seq (.seq (.region [⟨some 2, .move (.cst .nilp), none⟩]) (.clr [2])) (.seq (.seq (.seq (.region [⟨some 6, .move (.tmp 0), none⟩, ⟨some 7, .call 22 [.tmp 6], none⟩, ⟨some 8, .un .not (.tmp 7), none⟩]) (.clr [7, 6])) (.cond (.tmp 8) (.seq (.clr [8, 0]) (.seq (.region [⟨some 2, .move (.cst .nilp), none⟩]) .ret)) (.seq (.clr [8]) .skip))) (.seq (.seq (.region [⟨some 9, .move (.tmp 0), none⟩, ⟨some 10, .nilck (.tmp 9), none⟩, ⟨some 11, .load (some 9) (.tmp 10), none⟩, ⟨some 3, .allocz 0 [.bool false, .int .i64 0, .int .i64 0, .int .i64 0, .nils, .int .i64 0, .int .i64 0, .int .i64 0, .bool false], none⟩, ⟨none, .store 9 (.tmp 3) (.tmp 11), none⟩]) (.clr [11, 10, 9])) (.seq (.seq (.region [⟨some 12, .faddr 4 (.tmp 3), none⟩, ⟨none, .store 1 (.tmp 12) (.cst .nils), none⟩]) (.clr [12])) (.seq (.seq (.seq (.region [⟨some 13, .move (.tmp 0), none⟩, ⟨some 14, .nilck (.tmp 13), none⟩, ⟨some 15, .faddr 4 (.tmp 14), none⟩, ⟨some 16, .load none (.tmp 15), none⟩, ⟨some 17, .lenS (.tmp 16), none⟩, ⟨some 18, .move (.cst (.int .i64 0)), none⟩]) (.clr [15, 14, 13, 0])) (.block 0 (.loop [] [] (.seq (.region [⟨some 19, .bin .lss (.tmp 18) (.tmp 17), none⟩]) (.seq (.cond (.tmp 19) (.seq (.clr [19]) .skip) (.seq (.clr [19, 18, 17, 16]) (.exit 0))) (.seq (.block 1 (.seq (.seq (.region [⟨some 20, .iaddrS 1 (.tmp 16) (.tmp 18), none⟩, ⟨some 21, .load none (.tmp 20), none⟩, ⟨some 5, .move (.tmp 21), none⟩]) (.clr [21, 20])) (.seq (.draw [(⟨some 22, .faddr 4 (.tmp 3), none⟩, []), (⟨some 23, .load none (.tmp 22), none⟩, []), (⟨some 24, .move (.tmp 5), none⟩, []), (⟨some 25, .call 23 [.tmp 24], none⟩, [1]), (⟨some 26, .bslice [.nils] 1 1 [(0, 1, .tmp 25)], none⟩, []), (⟨some 27, .append 1 1 24 (.tmp 23) (.tmp 26), none⟩, []), (⟨some 28, .faddr 4 (.tmp 3), none⟩, []), (⟨none, .store 1 (.tmp 28) (.tmp 27), none⟩, [])]) (.clr [28, 27, 26, 25, 24, 23, 22, 5])))) (.seq (.region [⟨some 29, .bin .add (.tmp 18) (.cst (.int .i64 1)), none⟩, ⟨some 18, .move (.tmp 29), none⟩]) (.clr [29])))))))) (.seq (.seq (.region [⟨some 2, .move (.tmp 3), none⟩]) (.clr [3])) .ret))))), res := [.tmp 2] }
def am17 : AFunc := { nargs := 1, nt := 10, sites := 0, mode := .look, body := .seq (.seq (.region [⟨some 2, .move (.cst (.int .i64 0)), none⟩]) (.clr [2])) (.seq (.seq (.seq (.region [⟨some 3, .move (.tmp 0), none⟩, ⟨some 4, .call 22 [.tmp 3], none⟩, ⟨some 5, .un .not (.tmp 4), none⟩]) (.clr [4, 3])) (.cond (.tmp 5) (.seq (.clr [5, 0]) (.seq (.region [⟨some 2, .move (.cst (.int .i64 0)), none⟩]) .ret)) (.seq (.clr [5]) .skip))) (.seq (.seq (.region [⟨some 6, .move (.tmp 0), none⟩, ⟨some 7, .nilck (.tmp 6), none⟩, ⟨some 8, .faddr 7 (.tmp 7), none⟩, ⟨some 9, .load none (.tmp 8), none⟩, ⟨some 2, .move (.tmp 9), none⟩]) (.clr [9, 8, 7, 6, 0])) .ret)), res := [.tmp 2] }
def am18 : AFunc := { nargs := 2, nt := 124, sites := 1, mode := .keep, body := .seq (.seq (.region [⟨some 3, .box 0 (.tmp 1), none⟩, ⟨some 4, .move (.cst .nils), none⟩, ⟨some 5, .move (.cst (.bool false)), none⟩]) (.clr [5, 4, 1])) (.seq (.seq (.seq (.region [⟨some 7, .move (.tmp 0), none⟩, ⟨some 8, .call 22 [.tmp 7], none⟩, ⟨some 9, .un .not (.tmp 8), none⟩]) (.clr [8, 7])) (.cond (.tmp 9) (.seq (.clr [9, 3, 0]) (.seq (.region [⟨some 4, .move (.cst .nils), none⟩, ⟨some 5, .move (.cst (.bool false)), none⟩]) .ret)) (.seq (.clr [9]) .skip))) (.seq (.seq (.region [⟨some 10, .move (.tmp 0), none⟩, ⟨some 11, .nilck (.tmp 10), none⟩, ⟨some 12, .faddr 5 (.tmp 11), none⟩, ⟨some 13, .load none (.tmp 12), none⟩, ⟨some 14, .move (.tmp 0), none⟩, ⟨some 15, .nilck (.tmp 14), none⟩, ⟨some 16, .faddr 4 (.tmp 15), none⟩, ⟨some 17, .load none (.tmp 16), none⟩, ⟨some 18, .lenS (.tmp 17), none⟩, ⟨some 19, .bin .add (.tmp 13) (.tmp 18), none⟩, ⟨some 20, .bin .sub (.tmp 19) (.cst (.int .i64 1)), none⟩, ⟨some 6, .move (.tmp 20), none⟩]) (.clr [20, 19, 18, 17, 16, 15, 14, 13, 12, 11, 10])) (.seq (.block 0 (.seq (.seq (.seq (.region [⟨some 22, .faddr 0 (.tmp 3), none⟩, ⟨some 23, .load none (.tmp 22), none⟩, ⟨some 24, .move (.tmp 0), none⟩, ⟨some 25, .nilck (.tmp 24), none⟩, ⟨some 26, .faddr 2 (.tmp 25), none⟩, ⟨some 27, .load none (.tmp 26), none⟩, ⟨some 28, .bin .neq (.tmp 23) (.tmp 27), none⟩, ⟨some 21, .move (.tmp 28), none⟩]) (.clr [28, 27, 26, 25, 24, 23, 22])) (.cond (.tmp 21) .skip (.seq (.clr [21]) (.seq (.seq (.region [⟨some 29, .faddr 1 (.tmp 3), none⟩, ⟨some 30, .load none (.tmp 29), none⟩, ⟨some 31, .move (.tmp 0), none⟩, ⟨some 32, .nilck (.tmp 31), none⟩, ⟨some 33, .faddr 1 (.tmp 32), none⟩, ⟨some 34, .load none (.tmp 33), none⟩, ⟨some 35, .bin .neq (.tmp 30) (.tmp 34), none⟩, ⟨some 21, .move (.tmp 35), none⟩]) (.clr [35, 34, 33, 32, 31, 30, 29])) (.cond (.tmp 21) .skip (.seq (.clr [21]) (.seq (.region [⟨some 36, .faddr 2 (.tmp 3), none⟩, ⟨some 37, .load none (.tmp 36), none⟩, ⟨some 38, .move (.tmp 0), none⟩, ⟨some 39, .nilck (.tmp 38), none⟩, ⟨some 40, .faddr 3 (.tmp 39), none⟩, ⟨some 41, .load none (.tmp 40), none⟩, ⟨some 42, .bin .neq (.tmp 37) (.tmp 41), none⟩, ⟨some 21, .move (.tmp 42), none⟩]) (.clr [42, 41, 40, 39, 38, 37, 36])))))))) (.cond (.tmp 21) (.seq (.clr [21, 6, 3, 0]) (.seq (.region [⟨some 4, .move (.cst .nils), none⟩, ⟨some 5, .move (.cst (.bool false)), none⟩]) .ret)) (.seq (.clr [21]) (.seq (.seq (.seq (.region [⟨some 44, .faddr 3 (.tmp 3), none⟩, ⟨some 45, .load none (.tmp 44), none⟩, ⟨some 46, .bin .lss (.tmp 45) (.cst (.int .i64 0)), none⟩, ⟨some 43, .move (.tmp 46), none⟩]) (.clr [46, 45, 44])) (.cond (.tmp 43) (.seq (.clr [6]) .skip) (.seq (.clr [43]) (.seq (.seq (.region [⟨some 47, .faddr 3 (.tmp 3), none⟩, ⟨some 48, .load none (.tmp 47), none⟩, ⟨some 49, .bin .gtr (.tmp 48) (.cst (.int .i64 4611686018427387904)), none⟩, ⟨some 43, .move (.tmp 49), none⟩]) (.clr [49, 48, 47])) (.cond (.tmp 43) (.seq (.clr [6]) .skip) (.seq (.clr [43]) (.seq (.seq (.region [⟨some 50, .faddr 4 (.tmp 3), none⟩, ⟨some 51, .load none (.tmp 50), none⟩, ⟨some 52, .bin .lss (.tmp 51) (.cst (.int .i64 0)), none⟩, ⟨some 43, .move (.tmp 52), none⟩]) (.clr [52, 51, 50])) (.cond (.tmp 43) (.seq (.clr [6]) .skip) (.seq (.clr [43]) (.seq (.seq (.region [⟨some 53, .faddr 4 (.tmp 3), none⟩, ⟨some 54, .load none (.tmp 53), none⟩, ⟨some 55, .move (.tmp 6), none⟩, ⟨some 56, .bin .gtr (.tmp 54) (.tmp 55), none⟩, ⟨some 43, .move (.tmp 56), none⟩]) (.clr [56, 55, 54, 53, 6])) (.cond (.tmp 43) .skip (.seq (.clr [43]) (.seq (.region [⟨some 57, .faddr 5 (.tmp 3), none⟩, ⟨some 58, .load none (.tmp 57), none⟩, ⟨some 59, .lenS (.tmp 58), none⟩, ⟨some 60, .bin .gtr (.tmp 59) (.cst (.int .i64 256)), none⟩, ⟨some 43, .move (.tmp 60), none⟩]) (.clr [60, 59, 58, 57])))))))))))))) (.cond (.tmp 43) (.seq (.clr [43, 3, 0]) (.seq (.region [⟨some 4, .move (.cst .nils), none⟩, ⟨some 5, .move (.cst (.bool false)), none⟩]) .ret)) (.seq (.clr [43]) (.seq (.seq (.region [⟨some 62, .faddr 3 (.tmp 3), none⟩, ⟨some 63, .load none (.tmp 62), none⟩, ⟨some 64, .bin .eql (.tmp 63) (.cst (.int .i64 0)), none⟩, ⟨some 65, .move (.tmp 64), none⟩, ⟨some 66, .faddr 5 (.tmp 3), some (65, true)⟩, ⟨some 67, .load none (.tmp 66), some (65, true)⟩, ⟨some 68, .lenS (.tmp 67), some (65, true)⟩, ⟨some 69, .bin .gtr (.tmp 68) (.cst (.int .i64 0)), some (65, true)⟩, ⟨some 70, .pick (.tmp 65) (.tmp 69) (.cst (.bool false)), none⟩, ⟨some 61, .move (.tmp 70), none⟩]) (.clr [70, 69, 68, 67, 66, 65, 64, 63, 62])) (.cond (.tmp 61) (.seq (.clr [61, 3, 0]) (.seq (.region [⟨some 4, .move (.cst .nils), none⟩, ⟨some 5, .move (.cst (.bool false)), none⟩]) .ret)) (.seq (.clr [61]) .skip)))))))))) (.seq (.seq (.seq (.region [⟨some 71, .faddr 4 (.tmp 3), none⟩, ⟨some 72, .load none (.tmp 71), none⟩, ⟨some 73, .move (.tmp 0), none⟩, ⟨some 74, .nilck (.tmp 73), none⟩, ⟨some 75, .faddr 5 (.tmp 74), none⟩, ⟨some 76, .load none (.tmp 75), none⟩, ⟨some 77, .bin .geq (.tmp 72) (.tmp 76), none⟩]) (.clr [76, 75, 74, 73, 72, 71])) (.cond (.tmp 77) (.seq (.clr [77]) (.seq (.seq (.region [⟨some 78, .move (.tmp 0), none⟩, ⟨some 79, .move (.tmp 0), none⟩, ⟨some 80, .nilck (.tmp 79), none⟩, ⟨some 81, .faddr 4 (.tmp 80), none⟩, ⟨some 82, .load none (.tmp 81), none⟩, ⟨some 83, .faddr 4 (.tmp 3), none⟩, ⟨some 84, .load none (.tmp 83), none⟩, ⟨some 85, .move (.tmp 0), none⟩, ⟨some 86, .nilck (.tmp 85), none⟩, ⟨some 87, .faddr 5 (.tmp 86), none⟩, ⟨some 88, .load none (.tmp 87), none⟩, ⟨some 89, .bin .sub (.tmp 84) (.tmp 88), none⟩, ⟨some 90, .bin .add (.tmp 89) (.cst (.int .i64 1)), none⟩, ⟨some 91, .slS 1 (.tmp 82) (some (.tmp 90)) none none, none⟩, ⟨some 92, .nilck (.tmp 78), none⟩, ⟨some 93, .faddr 4 (.tmp 92), none⟩, ⟨none, .store 1 (.tmp 93) (.tmp 91), none⟩]) (.clr [93, 92, 91, 90, 89, 88, 87, 86, 85, 84, 83, 82, 81, 80, 79, 78])) (.seq (.region [⟨some 94, .move (.tmp 0), none⟩, ⟨some 95, .faddr 4 (.tmp 3), none⟩, ⟨some 96, .load none (.tmp 95), none⟩, ⟨some 97, .bin .add (.tmp 96) (.cst (.int .i64 1)), none⟩, ⟨some 98, .nilck (.tmp 94), none⟩, ⟨some 99, .faddr 5 (.tmp 98), none⟩, ⟨none, .store 1 (.tmp 99) (.tmp 97), none⟩]) (.clr [99, 98, 97, 96, 95, 94])))) (.seq (.clr [77]) .skip))) (.seq (.seq (.seq (.region [⟨some 100, .faddr 3 (.tmp 3), none⟩, ⟨some 101, .load none (.tmp 100), none⟩, ⟨some 102, .bin .eql (.tmp 101) (.cst (.int .i64 0)), none⟩]) (.clr [101, 100])) (.cond (.tmp 102) (.seq (.clr [102, 3, 0]) (.seq (.region [⟨some 4, .move (.cst .nils), none⟩, ⟨some 5, .move (.cst (.bool false)), none⟩]) .ret)) (.seq (.clr [102]) .skip))) (.seq (.seq (.region [⟨some 103, .move (.tmp 0), none⟩, ⟨some 104, .nilck (.tmp 103), none⟩, ⟨some 105, .faddr 8 (.tmp 104), none⟩, ⟨none, .store 1 (.tmp 105) (.cst (.bool true)), none⟩]) (.clr [105, 104, 103])) (.seq (.seq (.seq (.region [⟨some 106, .faddr 3 (.tmp 3), none⟩, ⟨some 107, .load none (.tmp 106), none⟩, ⟨some 108, .move (.tmp 0), none⟩, ⟨some 109, .nilck (.tmp 108), none⟩, ⟨some 110, .faddr 7 (.tmp 109), none⟩, ⟨some 111, .load none (.tmp 110), none⟩, ⟨some 112, .bin .add (.tmp 111) (.cst (.int .i64 1)), none⟩, ⟨some 113, .bin .neq (.tmp 107) (.tmp 112), none⟩]) (.clr [112, 111, 110, 109, 108, 107, 106])) (.cond (.tmp 113) (.seq (.clr [113, 3, 0]) (.seq (.region [⟨some 4, .move (.cst .nils), none⟩, ⟨some 5, .move (.cst (.bool false)), none⟩]) .ret)) (.seq (.clr [113]) .skip))) (.seq (.seq (.region [⟨some 114, .move (.tmp 0), none⟩, ⟨some 115, .nilck (.tmp 114), none⟩, ⟨some 116, .faddr 7 (.tmp 115), none⟩, ⟨some 117, .load none (.tmp 116), none⟩, ⟨some 118, .bin .add (.tmp 117) (.cst (.int .i64 1)), none⟩, ⟨some 119, .nilck (.tmp 114), none⟩, ⟨some 120, .faddr 7 (.tmp 119), none⟩, ⟨none, .store 1 (.tmp 120) (.tmp 118), none⟩]) (.clr [120, 119, 118, 117, 116, 115, 114, 0])) (.seq (.seq (.region [⟨some 121, .faddr 5 (.tmp 3), none⟩, ⟨some 122, .load none (.tmp 121), none⟩, ⟨some 123, .call 23 [.tmp 122], none⟩, ⟨some 4, .move (.tmp 123), none⟩, ⟨some 5, .move (.cst (.bool true)), none⟩]) (.clr [123, 122, 121, 3])) .ret))))))))), res := [.tmp 4, .tmp 5] }
def am19 : AFunc := { nargs := 1, nt := 11, sites := 0, mode := .look, body := .seq (.seq (.region [⟨some 2, .move (.cst (.bool false)), none⟩]) (.clr [2])) (.seq (.seq (.region [⟨some 3, .move (.tmp 0), none⟩, ⟨some 4, .call 22 [.tmp 3], none⟩, ⟨some 5, .move (.tmp 4), none⟩, ⟨some 6, .move (.tmp 0), some (5, true)⟩, ⟨some 7, .nilck (.tmp 6), some (5, true)⟩, ⟨some 8, .faddr 8 (.tmp 7), some (5, true)⟩, ⟨some 9, .load none (.tmp 8), some (5, true)⟩, ⟨some 10, .pick (.tmp 5) (.tmp 9) (.cst (.bool false)), none⟩, ⟨some 2, .move (.tmp 10), none⟩]) (.clr [10, 9, 8, 7, 6, 5, 4, 3, 0])) .ret), res := [.tmp 2] }
def am20 : AFunc := { nargs := 2, nt := 102, sites := 0, mode := .keep, body := .seq (.seq (.region [⟨some 4, .move (.cst (.bool false)), none⟩]) (.clr [4])) (.seq (.seq (.seq (.region [⟨some 5, .move (.tmp 0), none⟩, ⟨some 6, .call 22 [.tmp 5], none⟩, ⟨some 7, .un .not (.tmp 6), none⟩, ⟨some 8, .move (.tmp 7), none⟩, ⟨some 9, .move (.tmp 1), some (8, false)⟩, ⟨some 10, .call 22 [.tmp 9], some (8, false)⟩, ⟨some 11, .un .not (.tmp 10), some (8, false)⟩, ⟨some 12, .pick (.tmp 8) (.cst (.bool true)) (.tmp 11), none⟩]) (.clr [11, 10, 9, 8, 7, 6, 5])) (.cond (.tmp 12) (.seq (.clr [12]) (.seq (.seq (.region [⟨some 13, .move (.tmp 0), none⟩, ⟨some 14, .call 22 [.tmp 13], none⟩, ⟨some 15, .move (.tmp 1), none⟩, ⟨some 16, .call 22 [.tmp 15], none⟩, ⟨some 17, .eqc false false [.b] (.tmp 14) (.tmp 16), none⟩, ⟨some 4, .move (.tmp 17), none⟩]) (.clr [17, 16, 15, 14, 13, 1, 0])) .ret)) (.seq (.clr [12]) .skip))) (.seq (.seq (.seq (.region [⟨some 18, .move (.tmp 0), none⟩, ⟨some 19, .nilck (.tmp 18), none⟩, ⟨some 20, .faddr 1 (.tmp 19), none⟩, ⟨some 21, .load none (.tmp 20), none⟩, ⟨some 22, .move (.tmp 1), none⟩, ⟨some 23, .nilck (.tmp 22), none⟩, ⟨some 24, .faddr 1 (.tmp 23), none⟩, ⟨some 25, .load none (.tmp 24), none⟩, ⟨some 26, .bin .neq (.tmp 21) (.tmp 25), none⟩, ⟨some 27, .move (.tmp 26), none⟩, ⟨some 28, .move (.tmp 0), some (27, false)⟩, ⟨some 29, .nilck (.tmp 28), some (27, false)⟩, ⟨some 30, .faddr 2 (.tmp 29), some (27, false)⟩, ⟨some 31, .load none (.tmp 30), some (27, false)⟩, ⟨some 32, .move (.tmp 1), some (27, false)⟩, ⟨some 33, .nilck (.tmp 32), some (27, false)⟩, ⟨some 34, .faddr 2 (.tmp 33), some (27, false)⟩, ⟨some 35, .load none (.tmp 34), some (27, false)⟩, ⟨some 36, .bin .neq (.tmp 31) (.tmp 35), some (27, false)⟩, ⟨some 37, .pick (.tmp 27) (.cst (.bool true)) (.tmp 36), none⟩, ⟨some 38, .move (.tmp 37), none⟩, ⟨some 39, .move (.tmp 0), some (38, false)⟩, ⟨some 40, .nilck (.tmp 39), some (38, false)⟩, ⟨some 41, .faddr 3 (.tmp 40), some (38, false)⟩, ⟨some 42, .load none (.tmp 41), some (38, false)⟩, ⟨some 43, .move (.tmp 1), some (38, false)⟩, ⟨some 44, .nilck (.tmp 43), some (38, false)⟩, ⟨some 45, .faddr 3 (.tmp 44), some (38, false)⟩, ⟨some 46, .load none (.tmp 45), some (38, false)⟩, ⟨some 47, .bin .neq (.tmp 42) (.tmp 46), some (38, false)⟩, ⟨some 48, .pick (.tmp 38) (.cst (.bool true)) (.tmp 47), none⟩, ⟨some 49, .move (.tmp 48), none⟩, ⟨some 50, .move (.tmp 0), some (49, false)⟩, ⟨some 51, .nilck (.tmp 50), some (49, false)⟩, ⟨some 52, .faddr 5 (.tmp 51), some (49, false)⟩, ⟨some 53, .load none (.tmp 52), some (49, false)⟩, ⟨some 54, .move (.tmp 1), some (49, false)⟩, ⟨some 55, .nilck (.tmp 54), some (49, false)⟩, ⟨some 56, .faddr 5 (.tmp 55), some (49, false)⟩, ⟨some 57, .load none (.tmp 56), some (49, false)⟩, ⟨some 58, .bin .neq (.tmp 53) (.tmp 57), some (49, false)⟩, ⟨some 59, .pick (.tmp 49) (.cst (.bool true)) (.tmp 58), none⟩, ⟨some 60, .move (.tmp 59), none⟩, ⟨some 61, .move (.tmp 0), some (60, false)⟩, ⟨some 62, .nilck (.tmp 61), some (60, false)⟩, ⟨some 63, .faddr 6 (.tmp 62), some (60, false)⟩, ⟨some 64, .load none (.tmp 63), some (60, false)⟩, ⟨some 65, .move (.tmp 1), some (60, false)⟩, ⟨some 66, .nilck (.tmp 65), some (60, false)⟩, ⟨some 67, .faddr 6 (.tmp 66), some (60, false)⟩, ⟨some 68, .load none (.tmp 67), some (60, false)⟩, ⟨some 69, .bin .neq (.tmp 64) (.tmp 68), some (60, false)⟩, ⟨some 70, .pick (.tmp 60) (.cst (.bool true)) (.tmp 69), none⟩, ⟨some 71, .move (.tmp 70), none⟩, ⟨some 72, .move (.tmp 0), some (71, false)⟩, ⟨some 73, .nilck (.tmp 72), some (71, false)⟩, ⟨some 74, .faddr 7 (.tmp 73), some (71, false)⟩, ⟨some 75, .load none (.tmp 74), some (71, false)⟩, ⟨some 76, .move (.tmp 1), some (71, false)⟩, ⟨some 77, .nilck (.tmp 76), some (71, false)⟩, ⟨some 78, .faddr 7 (.tmp 77), some (71, false)⟩, ⟨some 79, .load none (.tmp 78), some (71, false)⟩, ⟨some 80, .bin .neq (.tmp 75) (.tmp 79), some (71, false)⟩, ⟨some 81, .pick (.tmp 71) (.cst (.bool true)) (.tmp 80), none⟩, ⟨some 82, .move (.tmp 81), none⟩, ⟨some 83, .move (.tmp 0), some (82, false)⟩, ⟨some 84, .nilck (.tmp 83), some (82, false)⟩, ⟨some 85, .faddr 8 (.tmp 84), some (82, false)⟩, ⟨some 86, .load none (.tmp 85), some (82, false)⟩, ⟨some 87, .move (.tmp 1), some (82, false)⟩, ⟨some 88, .nilck (.tmp 87), some (82, false)⟩, ⟨some 89, .faddr 8 (.tmp 88), some (82, false)⟩, ⟨some 90, .load none (.tmp 89), some (82, false)⟩, ⟨some 91, .eqc true false [.b] (.tmp 86) (.tmp 90), some (82, false)⟩, ⟨some 92, .pick (.tmp 82) (.cst (.bool true)) (.tmp 91), none⟩]) (.clr [91, 90, 89, 88, 87, 86, 85, 84, 83, 82, 81, 80, 79, 78, 77, 76, 75, 74, 73, 72, 71, 70, 69, 68, 67, 66, 65, 64, 63, 62, 61, 60, 59, 58, 57, 56, 55, 54, 53, 52, 51, 50, 49, 48, 47, 46, 45, 44, 43, 42, 41, 40, 39, 38, 37, 36, 35, 34, 33, 32, 31, 30, 29, 28, 27, 26, 25, 24, 23, 22, 21, 20, 19, 18])) (.cond (.tmp 92) (.seq (.clr [92, 1, 0]) (.seq (.region [⟨some 4, .move (.cst (.bool false)), none⟩]) .ret)) (.seq (.clr [92]) .skip))) (.seq (.seq (.region [⟨some 93, .move (.tmp 0), none⟩, ⟨some 94, .nilck (.tmp 93), none⟩, ⟨some 95, .faddr 4 (.tmp 94), none⟩, ⟨some 96, .load none (.tmp 95), none⟩, ⟨some 97, .move (.tmp 1), none⟩, ⟨some 98, .nilck (.tmp 97), none⟩, ⟨some 99, .faddr 4 (.tmp 98), none⟩, ⟨some 100, .load none (.tmp 99), none⟩, ⟨some 101, .call 25 [.tmp 96, .tmp 100, .cst (.func 26 [] [])], none⟩, ⟨some 4, .move (.tmp 101), none⟩]) (.clr [101, 100, 99, 98, 97, 96, 95, 94, 93, 1, 0])) .ret))), res := [.tmp 4] }
def am21 : AFunc := { nargs := 1, nt := 9, sites := 0, mode := .pure, body := .seq (.seq (.region [⟨some 2, .move (.cst (.bool false)), none⟩]) (.clr [2])) (.seq (.seq (.region [⟨some 3, .move (.tmp 0), none⟩, ⟨some 4, .bin .geq (.tmp 3) (.cst (.int .i64 0)), none⟩, ⟨some 5, .move (.tmp 4), none⟩, ⟨some 6, .move (.tmp 0), some (5, true)⟩, ⟨some 7, .bin .lss (.tmp 6) (.cst (.int .i64 8)), some (5, true)⟩, ⟨some 8, .pick (.tmp 5) (.tmp 7) (.cst (.bool false)), none⟩, ⟨some 2, .move (.tmp 8), none⟩]) (.clr [8, 7, 6, 5, 4, 3, 0])) .ret), res := [.tmp 2] }
def am22 : AFunc := { nargs := 1, nt := 11, sites := 0, mode := .look, body := .seq (.seq (.region [⟨some 2, .move (.cst (.bool false)), none⟩]) (.clr [2])) (.seq (.seq (.region [⟨some 3, .move (.tmp 0), none⟩, ⟨some 4, .eqnil true (NK.p) (.tmp 3), none⟩, ⟨some 5, .move (.tmp 4), none⟩, ⟨some 6, .move (.tmp 0), some (5, true)⟩, ⟨some 7, .nilck (.tmp 6), some (5, true)⟩, ⟨some 8, .faddr 0 (.tmp 7), some (5, true)⟩, ⟨some 9, .load none (.tmp 8), some (5, true)⟩, ⟨some 10, .pick (.tmp 5) (.tmp 9) (.cst (.bool false)), none⟩, ⟨some 2, .move (.tmp 10), none⟩]) (.clr [10, 9, 8, 7, 6, 5, 4, 3, 0])) .ret), res := [.tmp 2] }
def am23 : AFunc := { nargs := 1, nt := 8, sites := 2, mode := .auto, body := .seq (.seq (.region [⟨some 2, .move (.cst .nils), none⟩]) (.clr [2])) (.seq (.seq (.seq (.region [⟨some 3, .move (.tmp 0), none⟩, ⟨some 4, .eqnil false (NK.s) (.tmp 3), none⟩]) (.clr [3])) (.cond (.tmp 4) (.seq (.clr [4, 0]) (.seq (.region [⟨some 2, .move (.cst .nils), none⟩]) .ret)) (.seq (.clr [4]) .skip))) (.seq (.seq (.region [⟨some 5, .bnew 0 [] 0 1 [], none⟩, ⟨some 6, .move (.tmp 0), none⟩, ⟨some 7, .append 1 1 1 (.tmp 5) (.tmp 6), none⟩, ⟨some 2, .move (.tmp 7), none⟩]) (.clr [7, 6, 5, 0])) .ret)), res := [.tmp 2] }
def am24 : AFunc := { nargs := 2, nt := 70, sites := 3, mode := .keep, body := .seq (.seq (.region [⟨some 2, .box 0 (.tmp 0), none⟩, ⟨some 4, .move (.cst .nils), none⟩]) (.clr [4, 0])) (.seq (.seq (.region [⟨some 10, .mkfunc 27 [] [.tmp 2], none⟩, ⟨some 5, .move (.tmp 10), none⟩]) (.clr [10])) (.seq (.region [⟨some 6, .move (.cst .nils), none⟩]) (.seq (.seq (.seq (.region [⟨some 11, .load none (.tmp 2), none⟩, ⟨some 12, .nilck (.tmp 11), none⟩, ⟨some 13, .faddr 4 (.tmp 12), none⟩, ⟨some 14, .load none (.tmp 13), none⟩, ⟨some 15, .lenS (.tmp 14), none⟩, ⟨some 16, .move (.cst (.int .i64 0)), none⟩]) (.clr [13, 12, 11])) (.block 0 (.loop [] [] (.seq (.region [⟨some 17, .bin .lss (.tmp 16) (.tmp 15), none⟩]) (.seq (.cond (.tmp 17) (.seq (.clr [17]) .skip) (.seq (.clr [17, 16, 15, 14, 1]) (.exit 0))) (.seq (.block 1 (.seq (.seq (.region [⟨some 18, .move (.tmp 16), none⟩, ⟨some 19, .iaddrS 1 (.tmp 14) (.tmp 16), none⟩, ⟨some 20, .load none (.tmp 19), none⟩, ⟨some 7, .move (.tmp 18), none⟩, ⟨some 8, .move (.tmp 20), none⟩]) (.clr [20, 19, 18])) (.seq (.seq (.region [⟨some 21, .load none (.tmp 2), none⟩, ⟨some 22, .nilck (.tmp 21), none⟩, ⟨some 23, .faddr 5 (.tmp 22), none⟩, ⟨some 24, .load none (.tmp 23), none⟩, ⟨some 25, .move (.tmp 7), none⟩, ⟨some 26, .bin .add (.tmp 24) (.tmp 25), none⟩, ⟨some 9, .move (.tmp 26), none⟩]) (.clr [26, 25, 24, 23, 22, 21, 7])) (.seq (.seq (.region [⟨some 27, .move (.tmp 9), none⟩, ⟨some 28, .move (.tmp 1), none⟩, ⟨some 29, .bin .geq (.tmp 27) (.tmp 28), none⟩]) (.clr [28, 27])) (.cond (.tmp 29) (.seq (.clr [29]) (.seq (.region [⟨some 30, .move (.tmp 6), none⟩, ⟨some 31, .move (.tmp 5), none⟩, ⟨some 32, .move (.tmp 9), none⟩, ⟨some 33, .move (.tmp 8), none⟩, ⟨some 34, .callv (.tmp 31) [.tmp 32, .tmp 33], none⟩, ⟨some 35, .bslice [.int .i64 0, .int .i64 0, .int .i64 0, .int .i64 0, .int .i64 0, .nils] 1 6 [(0, 6, .tmp 34)], none⟩, ⟨some 36, .append 1 6 64 (.tmp 30) (.tmp 35), none⟩, ⟨some 6, .move (.tmp 36), none⟩]) (.clr [36, 35, 34, 33, 32, 31, 30, 9, 8]))) (.seq (.clr [29, 9, 8]) .skip)))))) (.seq (.region [⟨some 37, .bin .add (.tmp 16) (.cst (.int .i64 1)), none⟩, ⟨some 16, .move (.tmp 37), none⟩]) (.clr [37])))))))) (.seq (.seq (.seq (.region [⟨some 38, .move (.tmp 6), none⟩, ⟨some 39, .lenS (.tmp 38), none⟩, ⟨some 40, .bin .eql (.tmp 39) (.cst (.int .i64 0)), none⟩, ⟨some 41, .move (.tmp 40), none⟩, ⟨some 42, .load none (.tmp 2), some (41, true)⟩, ⟨some 43, .nilck (.tmp 42), some (41, true)⟩, ⟨some 44, .faddr 8 (.tmp 43), some (41, true)⟩, ⟨some 45, .load none (.tmp 44), some (41, true)⟩, ⟨some 46, .pick (.tmp 41) (.tmp 45) (.cst (.bool false)), none⟩]) (.clr [45, 44, 43, 42, 41, 40, 39, 38])) (.cond (.tmp 46) (.seq (.clr [46]) (.seq (.region [⟨some 47, .move (.tmp 6), none⟩, ⟨some 48, .move (.tmp 5), none⟩, ⟨some 49, .callv (.tmp 48) [.cst (.int .i64 0), .cst .nils], none⟩, ⟨some 50, .bslice [.int .i64 0, .int .i64 0, .int .i64 0, .int .i64 0, .int .i64 0, .nils] 1 6 [(0, 6, .tmp 49)], none⟩, ⟨some 51, .append 2 6 64 (.tmp 47) (.tmp 50), none⟩, ⟨some 6, .move (.tmp 51), none⟩]) (.clr [51, 50, 49, 48, 47, 5]))) (.seq (.clr [46, 5]) .skip))) (.seq (.seq (.draw [(⟨some 52, .load none (.tmp 2), none⟩, []), (⟨some 53, .load none (.tmp 2), none⟩, []), (⟨some 54, .load none (.tmp 2), none⟩, []), (⟨some 55, .nilck (.tmp 54), none⟩, []), (⟨some 56, .faddr 5 (.tmp 55), none⟩, []), (⟨some 57, .load none (.tmp 56), none⟩, []), (⟨some 58, .load none (.tmp 2), none⟩, []), (⟨some 59, .nilck (.tmp 58), none⟩, []), (⟨some 60, .faddr 4 (.tmp 59), none⟩, []), (⟨some 61, .load none (.tmp 60), none⟩, []), (⟨some 62, .lenS (.tmp 61), none⟩, []), (⟨some 63, .bin .add (.tmp 57) (.tmp 62), none⟩, []), (⟨some 64, .bin .sub (.tmp 63) (.cst (.int .i64 1)), none⟩, []), (⟨some 65, .nilck (.tmp 52), none⟩, []), (⟨some 66, .faddr 6 (.tmp 65), none⟩, []), (⟨none, .store 1 (.tmp 66) (.tmp 64), none⟩, [1]), (⟨some 67, .nilck (.tmp 53), none⟩, []), (⟨some 68, .faddr 8 (.tmp 67), none⟩, []), (⟨none, .store 1 (.tmp 68) (.cst (.bool false)), none⟩, [])]) (.clr [68, 67, 66, 65, 64, 63, 62, 61, 60, 59, 58, 57, 56, 55, 54, 53, 52, 2])) (.seq (.seq (.region [⟨some 69, .move (.tmp 6), none⟩, ⟨some 4, .move (.tmp 69), none⟩]) (.clr [69, 6])) .ret)))))), res := [.tmp 4] }
def am25 : AFunc := { nargs := 3, nt := 32, sites := 0, mode := .keep, body := .seq (.seq (.region [⟨some 6, .move (.cst (.bool false)), none⟩]) (.clr [6])) (.seq (.seq (.seq (.region [⟨some 10, .move (.tmp 0), none⟩, ⟨some 11, .lenS (.tmp 10), none⟩, ⟨some 12, .move (.tmp 1), none⟩, ⟨some 13, .lenS (.tmp 12), none⟩, ⟨some 14, .bin .neq (.tmp 11) (.tmp 13), none⟩]) (.clr [13, 12, 11, 10])) (.cond (.tmp 14) (.seq (.clr [14, 2, 1, 0]) (.seq (.region [⟨some 6, .move (.cst (.bool false)), none⟩]) .ret)) (.seq (.clr [14]) .skip))) (.seq (.seq (.seq (.region [⟨some 15, .move (.tmp 0), none⟩, ⟨some 16, .lenS (.tmp 15), none⟩, ⟨some 17, .move (.cst (.int .i64 0)), none⟩]) (.clr [0])) (.block 0 (.loop [] [] (.seq (.region [⟨some 18, .bin .lss (.tmp 17) (.tmp 16), none⟩]) (.seq (.cond (.tmp 18) (.seq (.clr [18]) .skip) (.seq (.clr [18, 17, 16, 15, 2, 1]) (.exit 0))) (.seq (.block 1 (.seq (.seq (.region [⟨some 19, .move (.tmp 17), none⟩, ⟨some 20, .iaddrS 1 (.tmp 15) (.tmp 17), none⟩, ⟨some 21, .load none (.tmp 20), none⟩, ⟨some 7, .move (.tmp 19), none⟩, ⟨some 8, .move (.tmp 21), none⟩]) (.clr [21, 20, 19])) (.seq (.seq (.region [⟨some 22, .move (.tmp 1), none⟩, ⟨some 23, .move (.tmp 7), none⟩, ⟨some 24, .iaddrS 1 (.tmp 22) (.tmp 23), none⟩, ⟨some 25, .load none (.tmp 24), none⟩, ⟨some 9, .move (.tmp 25), none⟩]) (.clr [25, 24, 23, 22, 7])) (.seq (.seq (.region [⟨some 26, .move (.tmp 2), none⟩, ⟨some 27, .move (.tmp 8), none⟩, ⟨some 28, .move (.tmp 9), none⟩, ⟨some 29, .callv (.tmp 26) [.tmp 27, .tmp 28], none⟩, ⟨some 30, .un .not (.tmp 29), none⟩]) (.clr [29, 28, 27, 26, 9, 8])) (.cond (.tmp 30) (.seq (.clr [30, 17, 16, 15, 2, 1]) (.seq (.region [⟨some 6, .move (.cst (.bool false)), none⟩]) .ret)) (.seq (.clr [30]) .skip)))))) (.seq (.region [⟨some 31, .bin .add (.tmp 17) (.cst (.int .i64 1)), none⟩, ⟨some 17, .move (.tmp 31), none⟩]) (.clr [31])))))))) (.seq (.region [⟨some 6, .move (.cst (.bool true)), none⟩]) .ret))), res := [.tmp 6] }
def am26 : AFunc := { nargs := 2, nt := 10, sites := 0, mode := .look, body := .seq (.seq (.region [⟨some 4, .move (.cst (.bool false)), none⟩]) (.clr [4])) (.seq (.seq (.region [⟨some 5, .move (.tmp 0), none⟩, ⟨some 6, .b2s (.tmp 5), none⟩, ⟨some 7, .move (.tmp 1), none⟩, ⟨some 8, .b2s (.tmp 7), none⟩, ⟨some 9, .bin .eql (.tmp 6) (.tmp 8), none⟩, ⟨some 4, .move (.tmp 9), none⟩]) (.clr [9, 8, 7, 6, 5, 1, 0])) .ret), res := [.tmp 4] }
def am27 : AFunc := { nargs := 3, nt := 26, sites := 1, mode := .keep, body := .seq (.region [⟨some 5, .allocz 0 [.int .i64 0, .int .i64 0, .int .i64 0, .int .i64 0, .int .i64 0, .nils], none⟩]) (.seq (.seq (.draw [(⟨some 6, .load none (.tmp 2), none⟩, []), (⟨some 7, .nilck (.tmp 6), none⟩, []), (⟨some 8, .faddr 1 (.tmp 7), none⟩, []), (⟨some 9, .load none (.tmp 8), none⟩, []), (⟨some 10, .load none (.tmp 2), none⟩, []), (⟨some 11, .nilck (.tmp 10), none⟩, []), (⟨some 12, .faddr 2 (.tmp 11), none⟩, []), (⟨some 13, .load none (.tmp 12), none⟩, []), (⟨some 14, .load none (.tmp 2), none⟩, []), (⟨some 15, .nilck (.tmp 14), none⟩, []), (⟨some 16, .faddr 3 (.tmp 15), none⟩, []), (⟨some 17, .load none (.tmp 16), none⟩, []), (⟨some 18, .move (.tmp 0), none⟩, []), (⟨some 19, .load none (.tmp 2), none⟩, []), (⟨some 20, .nilck (.tmp 19), none⟩, []), (⟨some 21, .faddr 7 (.tmp 20), none⟩, []), (⟨some 22, .load none (.tmp 21), none⟩, []), (⟨some 23, .move (.tmp 1), none⟩, []), (⟨some 24, .call 23 [.tmp 23], none⟩, [0, 3, 4, 7, 8, 11, 13, 16]), (⟨some 25, .build [.int .i64 0, .int .i64 0, .int .i64 0, .int .i64 0, .int .i64 0, .nils] [(0, 1, .tmp 9), (1, 1, .tmp 13), (2, 1, .tmp 17), (3, 1, .tmp 18), (4, 1, .tmp 22), (5, 1, .tmp 24)], none⟩, []), (⟨none, .store 6 (.tmp 5) (.tmp 25), none⟩, [])]) (.clr [25, 24, 23, 22, 21, 20, 19, 18, 17, 16, 15, 14, 13, 12, 11, 10, 9, 8, 7, 6, 2, 1, 0])) .ret), res := [.cell 5 (some 6)] }
def am : AProg := [none, none, none, some am3, some am4, some am5, none, some am7, some am8, some am9, some am10, some am11, some am12, some am13, some am14, some am15, some am16, some am17, some am18, some am19, some am20, some am21, some am22, some am23, some am24, some am25, some am26, some am27]
theorem at3 : am[3]? = some (some am3) := rfl
theorem at7 : am[7]? = some (some am7) := rfl
theorem at8 : am[8]? = some (some am8) := rfl
theorem pm9 : pureOf am 9 = .pure := rfl
theorem at10 : am[10]? = some (some am10) := rfl
theorem pm10 : pureOf am 10 = .keep := rfl
theorem at11 : am[11]? = some (some am11) := rfl
theorem pm11 : pureOf am 11 = .keep := rfl
theorem at12 : am[12]? = some (some am12) := rfl
theorem pm12 : pureOf am 12 = .keep := rfl
theorem at13 : am[13]? = some (some am13) := rfl
theorem at14 : am[14]? = some (some am14) := rfl
theorem pm14 : pureOf am 14 = .look := rfl
theorem at15 : am[15]? = some (some am15) := rfl
theorem pm15 : pureOf am 15 = .look := rfl
theorem at18 : am[18]? = some (some am18) := rfl
theorem at21 : am[21]? = some (some am21) := rfl
theorem pm21 : pureOf am 21 = .pure := rfl
theorem at22 : am[22]? = some (some am22) := rfl
theorem at23 : am[23]? = some (some am23) := rfl
theorem pm23 : pureOf am 23 = .auto := rfl
theorem at24 : am[24]? = some (some am24) := rfl
theorem at27 : am[27]? = some (some am27) := rfl
end Go.Am.T


set_option linter.unusedVariables false
set_option linter.unusedSimpArgs false
namespace Go.Am
theorem closedIn_of {R : List Nat} {n : Nat} {h : Heap} (H : ∀ (o : Nat) (x : Ob), h[o]? = some x → inside R n o = true → ∀ i ∈ x.bd.objs, inside R n i = true) : closedIn R n h = true := by
  unfold closedIn
  rw [List.all_eq_true]
  rintro ⟨x, o⟩ hx
  rw [List.mem_zipIdx_iff_getElem?] at hx
  simp only [Bool.or_eq_true, Bool.not_eq_true']
  cases hi : inside R n o with
  | false => exact .inl rfl
  | true => exact .inr (List.all_eq_true.2 fun i hi' => H o x hx hi i hi')
theorem keepOnly_in {R : List Nat} {h : Heap} {o : Nat} (ho : o ∈ R) : (keepOnly R h)[o]? = h[o]? := by
  rw [keepOnly_get]
  have : R.contains o = true := by simpa using ho
  simp only [this, ↓reduceIte]
  cases h[o]? <;> rfl
theorem objsL_ints (k : IntKind) : ∀ (l : List Int), V.objsL (l.map (V.int k)) = []
  | [] => rfl
  | x :: l => by
    show V.objs (V.int k x) ++ V.objsL (l.map (V.int k)) = []
    rw [objsL_ints k l]
    rfl
end Go.Am


set_option linter.unusedVariables false
set_option linter.unusedSimpArgs false
namespace Go.Am
end Go.Am


set_option linter.unusedVariables false
set_option linter.unusedSimpArgs false
namespace Go.Am
abbrev Sl := List (Nat × V)
def getB : Sl → Nat → V
  | [], _ => .junk
  | (j, v) :: l, i => match Nat.beq i j with | true => v | false => getB l i
def insB (i : Nat) (x : V) : Sl → Sl
  | [] => [(i, x)]
  | (j, v) :: l => match Nat.beq i j with | true => (i, x) :: l | false => match Nat.blt i j with | true => (i, x) :: (j, v) :: l | false => (j, v) :: insB i x l
def delB (i : Nat) : Sl → Sl
  | [] => []
  | (j, v) :: l => match Nat.beq i j with | true => delB i l | false => (j, v) :: delB i l
def delsB : List Nat → Sl → Sl
  | [], l => l
  | i :: is, l => delsB is (delB i l)
theorem getB_eq : ∀ (l : Sl) (i : Nat), getB l i = get l i
  | [], _ => rfl
  | (j, v) :: l, i => by
    simp only [getB, get]
    cases h : Nat.beq i j with
    | true => rw [if_pos (Nat.eq_of_beq_eq_true h)]
    | false => rw [if_neg (Nat.ne_of_beq_eq_false h), getB_eq l]
theorem insB_eq (i : Nat) (x : V) : ∀ (l : Sl), insB i x l = ins i x l
  | [] => rfl
  | (j, v) :: l => by
    simp only [insB, ins]
    cases h : Nat.beq i j with
    | true => rw [if_pos (Nat.eq_of_beq_eq_true h)]
    | false =>
      rw [if_neg (Nat.ne_of_beq_eq_false h)]
      cases h2 : Nat.blt i j with
      | true => rw [if_pos (by simpa [Nat.blt_eq] using h2)]
      | false =>
        rw [if_neg (fun h3 => by rw [← Nat.blt_eq] at h3; rw [h3] at h2; cases h2), insB_eq i x l]
theorem delB_eq (i : Nat) : ∀ (l : Sl), delB i l = del i l
  | [] => rfl
  | (j, v) :: l => by
    simp only [delB, del]
    cases h : Nat.beq i j with
    | true => rw [if_pos (Nat.eq_of_beq_eq_true h), delB_eq i l]
    | false => rw [if_neg (Nat.ne_of_beq_eq_false h), delB_eq i l]
theorem delsB_eq : ∀ (is : List Nat) (l : Sl), delsB is l = dels is l
  | [], l => rfl
  | i :: is, l => by simp only [delsB, dels, delB_eq, delsB_eq is]
def evB (n : Nat) (l : Sl) : Opd → V
  | .tmp i => match Nat.blt i n with | true => getB l i | false => .junk
  | .cst v => v
theorem evB_eq (n : Nat) (l : Sl) : evB n l = ev (fr n l) := by
  funext o
  cases o with
  | cst v => rfl
  | tmp i =>
    simp only [evB, ev]
    cases h : Nat.blt i n with
    | true => rw [fr_getD (by simpa [Nat.blt_eq] using h), getB_eq]
    | false =>
      have hn : ¬ i < n := fun h3 => by rw [← Nat.blt_eq] at h3; rw [h3] at h; cases h
      rw [List.getD_eq_getElem?_getD, List.getElem?_eq_none (by rw [fr_length]; omega)]
      rfl
def putB (l : Sl) (dst : Option Nat) (v : V) : Sl := match dst with | some d => insB d v l | none => l
theorem put_B (n : Nat) (l : Sl) (dst : Option Nat) (v : V) : put (fr n l) dst v = fr n (putB l dst v) := by
  cases dst with
  | none => rfl
  | some d => simp only [putB, insB_eq]; exact put_fr n l d v
def wantedB (n : Nat) (o : AOper) (l : Sl) : Option Bool :=
  match o.guard with
  | none => some true
  | some (g, want) =>
    match evB n l (.tmp g) with
    | .bool b => some (match want with | true => b | false => !b)
    | .tup [] => some false
    | _ => none
theorem wanted_B (n : Nat) (o : AOper) (l : Sl) : wanted o (fr n l) = wantedB n o l := by
  unfold wanted wantedB
  rw [evB_eq]
  rfl
def stepOpB (call : Caller) (fb n : Nat) (o : AOper) (l : Sl) (h : Heap) : Option (Sl × Heap) :=
  match wantedB n o l with
  | none => none
  | some false => some (putB l o.dst (.tup []), h)
  | some true =>
    match doOp call fb o.op (evB n l) h with
    | some (v, h') => some (putB l o.dst v, h')
    | none => none
theorem stepOp_B (call : Caller) (fb n : Nat) (o : AOper) (l : Sl) (h : Heap) : stepOp call fb o (fr n l) h = (stepOpB call fb n o l h).map fun p => (fr n p.1, p.2) := by
  unfold stepOp stepOpB
  rw [wanted_B, evB_eq]
  cases wantedB n o l with
  | none => rfl
  | some b =>
    cases b with
    | false => simp only [put_B, Option.map_some]
    | true =>
      cases doOp call fb o.op (ev (fr n l)) h with
      | none => rfl
      | some p => simp only [put_B, Option.map_some]
def runOpsB (call : Caller) (fb n : Nat) : List AOper → Sl → Heap → Option (Sl × Heap)
  | [], l, h => some (l, h)
  | o :: os, l, h =>
    match stepOpB call fb n o l h with
    | some (l', h') => runOpsB call fb n os l' h'
    | none => none
theorem runOps_B (call : Caller) (fb n : Nat) : ∀ (ops : List AOper) (l : Sl) (h : Heap), runOps call fb ops (fr n l) h = (runOpsB call fb n ops l h).map fun p => (fr n p.1, p.2)
  | [], l, h => rfl
  | o :: os, l, h => by
    simp only [runOps, runOpsB, stepOp_B]
    cases stepOpB call fb n o l h with
    | none => rfl
    | some p => exact runOps_B call fb n os p.1 p.2
def fpAtB (pureF : FuncId → FMode) (fb n : Nat) (o : AOper) (l : Sl) (h : Heap) : Fp :=
  match wantedB n o l with
  | some true => fpOf pureF fb (evB n l) h o.op
  | _ => .io [] []
theorem fpAt_B (pureF : FuncId → FMode) (fb n : Nat) (o : AOper) (l : Sl) (h : Heap) : fpAt pureF fb o (fr n l) h = fpAtB pureF fb n o l h := by
  unfold fpAt fpAtB
  rw [wanted_B, evB_eq]
  rfl
def runDrawB (pureF : FuncId → FMode) (call : Caller) (fb m n : Nat) : List (AOper × List Nat) → List Fp → Sl → Heap → Option (Sl × Heap)
  | [], _, l, h => some (l, h)
  | (o, ps) :: os, fps, l, h =>
    match ps.all (fun k => (fps.getD k .bar).ok m (fpAtB pureF fb n o l h)) with
    | true =>
      match stepOpB call fb n o l h with
      | some (l', h') => runDrawB pureF call fb m n os (fps ++ [fpAtB pureF fb n o l h]) l' h'
      | none => none
    | false => none
theorem runDraw_B (pureF : FuncId → FMode) (call : Caller) (fb m n : Nat) : ∀ (ops : List (AOper × List Nat)) (fps : List Fp) (l : Sl) (h : Heap), runDraw pureF call fb m ops fps (fr n l) h = (runDrawB pureF call fb m n ops fps l h).map fun p => (fr n p.1, p.2)
  | [], fps, l, h => rfl
  | (o, ps) :: os, fps, l, h => by
    simp only [runDraw, runDrawB, stepOp_B, fpAt_B]
    cases ps.all (fun k => (fps.getD k .bar).ok m (fpAtB pureF fb n o l h)) with
    | false => rfl
    | true =>
      simp only [↓reduceIte]
      cases stepOpB call fb n o l h with
      | none => rfl
      | some p => exact runDraw_B pureF call fb m n os _ p.1 p.2
def loopNB (f : Sl → Heap → Option (Ex × Sl × Heap)) (pre : Sl → Heap → Sl × Heap) : Nat → Sl → Heap → Option (Ex × Sl × Heap)
  | 0, _, _ => none
  | n + 1, l, h =>
    match f (pre l h).1 (pre l h).2 with
    | some (.norm, l', h') => loopNB f pre n l' h'
    | r => r
theorem loopN_B {n : Nat} {f : List V → Heap → Option (Ex × List V × Heap)} {f' : Sl → Heap → Option (Ex × Sl × Heap)} (hf : ∀ l h, f (fr n l) h = (f' l h).map fun p => (p.1, fr n p.2.1, p.2.2)) {pre : List V → Heap → List V × Heap} {pre' : Sl → Heap → Sl × Heap}
    (hp : ∀ l h, pre (fr n l) h = (fr n (pre' l h).1, (pre' l h).2)) : ∀ (m : Nat) (l : Sl) (h : Heap), loopN f pre m (fr n l) h = (loopNB f' pre' m l h).map fun p => (p.1, fr n p.2.1, p.2.2)
  | 0, l, h => rfl
  | m + 1, l, h => by
    simp only [loopN, loopNB, hp, hf]
    cases f' (pre' l h).1 (pre' l h).2 with
    | none => rfl
    | some p =>
      obtain ⟨e, l', h'⟩ := p
      cases e with
      | norm => exact loopN_B hf hp m l' h'
      | _ => rfl
def execB (pureF : FuncId → FMode) (call : Caller) (N fb n : Nat) : ACode → Sl → Heap → Option (Ex × Sl × Heap)
  | .skip, l, h => some (.norm, l, h)
  | .region ops, l, h => match runOpsB call fb n ops l h with | some (l', h') => some (.norm, l', h') | none => none
  | .draw ops, l, h => match runDrawB pureF (frameC pureF call) fb h.length n ops [] l h with | some (l', h') => some (.norm, l', h') | none => none
  | .seq a b, l, h => match execB pureF call N fb n a l h with | some (.norm, l', h') => execB pureF call N fb n b l' h' | r => r
  | .cond c a b, l, h => match evB n l c with | .bool true => execB pureF call N fb n a l h | .bool false => execB pureF call N fb n b l h | _ => none
  | .block id b, l, h => match execB pureF call N fb n b l h with | some (.exit i, l', h') => (match Nat.beq i id with | true => some (.norm, l', h') | false => some (.exit i, l', h')) | r => r
  | .loop clr kill b, l, h => loopNB (execB pureF call N fb n b) (fun l h => (delsB clr l, killA fb kill h)) N l h
  | .exit id, l, h => some (.exit id, l, h)
  | .ret, l, h => some (.ret, l, h)
  | .clr is, l, h => some (.norm, delsB is l, h)
  | .fresh k b, l, h => execB pureF call N h.length n b l (h ++ deads k)
  | .rangeF f _ _ _ fid k site, l, h =>
    match h[fb + site]? with
    | some x =>
      match evB n l f with
      | .func g xs ys =>
        match Nat.beq g YLD with
        | true => none
        | false =>
        match call g (xs ++ [.yld (fb + site) (x.ver + 1)] ++ ys) (h.set (fb + site) ⟨x.ver + 1, .loop 0 none (fr n l) fb fid k⟩) with
        | some (_, h2) =>
          match h2[fb + site]? with
          | some ⟨v, .loop st pend _ _ _ _⟩ => if v = x.ver + 1 then if st = 1 then none else some (jumpE pend, l, h2.set (fb + site) ⟨v, .dead⟩) else none
          | _ => none
        | none => none
      | _ => none
    | none => none
theorem exec_B (pureF : FuncId → FMode) (call : Caller) (N fb n : Nat) : ∀ (c : ACode) (l : Sl) (h : Heap), exec pureF call N fb c (fr n l) h = (execB pureF call N fb n c l h).map fun p => (p.1, fr n p.2.1, p.2.2)
  | .skip, l, h => rfl
  | .region ops, l, h => by
    simp only [exec, execB, runOps_B]
    cases runOpsB call fb n ops l h <;> rfl
  | .draw ops, l, h => by
    simp only [exec, execB, runDraw_B]
    cases runDrawB pureF (frameC pureF call) fb h.length n ops [] l h <;> rfl
  | .seq a b, l, h => by
    simp only [exec, execB, exec_B pureF call N fb n a]
    cases execB pureF call N fb n a l h with
    | none => rfl
    | some p =>
      obtain ⟨e, l', h'⟩ := p
      cases e with
      | norm => exact exec_B pureF call N fb n b l' h'
      | _ => rfl
  | .cond c a b, l, h => by
    simp only [exec, execB, evB_eq]
    cases ev (fr n l) c with
    | bool x => cases x <;> first | exact exec_B pureF call N fb n a l h | exact exec_B pureF call N fb n b l h
    | _ => rfl
  | .block id b, l, h => by
    simp only [exec, execB, exec_B pureF call N fb n b]
    cases execB pureF call N fb n b l h with
    | none => rfl
    | some p =>
      obtain ⟨e, l', h'⟩ := p
      cases e with
      | exit i =>
        simp only [Option.map_some]
        cases hb : Nat.beq i id with
        | true => rw [if_pos (Nat.eq_of_beq_eq_true hb)]; rfl
        | false => rw [if_neg (Nat.ne_of_beq_eq_false hb)]; rfl
      | _ => rfl
  | .loop clr kill b, l, h => by
    simp only [exec, execB]
    exact loopN_B (exec_B pureF call N fb n b) (fun l h => by rw [fr_clear, delsB_eq]) N l h
  | .exit id, l, h => rfl
  | .ret, l, h => rfl
  | .clr is, l, h => by
    simp only [exec, execB, fr_clear, delsB_eq]
    rfl
  | .fresh k b, l, h => by
    simp only [exec, execB]
    exact exec_B pureF call N h.length n b l _
  | .rangeF f ps a b fid k site, l, h => by
    simp only [exec, execB, evB_eq]
    cases h[fb + site]? with
    | none => rfl
    | some x =>
      cases ev (fr n l) f with
      | func g xs ys =>
        simp only
        cases hg : Nat.beq g YLD with
        | true => rw [if_pos (Nat.eq_of_beq_eq_true hg)]; rfl
        | false =>
          rw [if_neg (Nat.ne_of_beq_eq_false hg)]
          simp only
          cases call g (xs ++ [.yld (fb + site) (x.ver + 1)] ++ ys) (h.set (fb + site) ⟨x.ver + 1, .loop 0 none (fr n l) fb fid k⟩) with
          | none => rfl
          | some p =>
            obtain ⟨v, h2⟩ := p
            simp only
            cases hq : h2[fb + site]? with
            | none => rfl
            | some ob =>
              obtain ⟨v, bd⟩ := ob
              cases bd with
              | loop st pend t' fb' f' k' =>
                simp only
                by_cases c1 : v = x.ver + 1
                · by_cases c2 : st = 1
                  · simp only [c1, c2, ↓reduceIte, Option.map_none]
                  · simp only [c1, c2, ↓reduceIte, Option.map_some]
                · simp only [c1, ↓reduceIte, Option.map_none]
              | _ => rfl
      | _ => rfl
def toB : Nat → List V → Sl
  | _, [] => []
  | i, v :: t => match v with | .junk => toB (i + 1) t | v => (i, v) :: toB (i + 1) t
theorem get_toB : ∀ (t : List V) (k i : Nat), get (toB k t) i = if i < k then .junk else t.getD (i - k) .junk
  | [], k, i => by simp [toB, get]
  | v :: t, k, i => by
    have ih := get_toB t (k + 1) i
    have step : ∀ (l : Sl), (get l i = if i < k + 1 then .junk else t.getD (i - (k + 1)) .junk) → (if i = k then v else get l i) = if i < k then .junk else (v :: t).getD (i - k) .junk := by
      intro l hl
      by_cases h1 : i = k
      · subst h1; simp
      · rw [if_neg h1, hl]
        by_cases h2 : i < k
        · rw [if_pos (by omega), if_pos h2]
        · rw [if_neg (by omega), if_neg h2, show i - k = (i - (k + 1)) + 1 by omega, List.getD_cons_succ]
    cases v with
    | junk =>
      simp only [toB]
      rw [ih]
      by_cases h2 : i < k
      · rw [if_pos (by omega), if_pos h2]
      · rw [if_neg h2]
        by_cases h1 : i = k
        · subst h1; simp
        · rw [if_neg (by omega), show i - k = (i - (k + 1)) + 1 by omega, List.getD_cons_succ]
    | _ => exact step _ ih
theorem fr_toB (t : List V) : fr t.length (toB 0 t) = t := by
  apply List.ext_getElem?
  intro i
  rcases Nat.lt_or_ge i t.length with h | h
  · rw [fr_get? h, get_toB]
    simp [List.getD_eq_getElem?_getD, h]
  · rw [List.getElem?_eq_none (by rw [fr_length]; exact h), List.getElem?_eq_none h]
def yieldB (p : AProg) (call : Caller) (N : Nat) (args : List V) (h : Heap) : Option (V × Heap) :=
  match args with
  | .yld o ver :: xs =>
    match h[o]? with
    | some ⟨v, .loop _ _ t fb f k⟩ =>
      match Nat.beq v ver with
      | false => none
      | true =>
        match p[f]? with
        | some (some af) =>
          match (rangesA af.body)[k]? with
          | some (ps, asn, body) =>
            match Nat.beq xs.length ps.length with
            | false => none
            | true =>
              match execB (pureOf p) call N fb t.length asn ((ps.zip xs).foldl (fun l p => insB p.1 p.2 l) (toB 0 t)) h with
              | some (.norm, t1, h1) =>
                match h1[o]? with
                | some ⟨v1, .loop 0 p1 t2 fb2 f2 k2⟩ =>
                  match Nat.beq v1 ver with
                  | false => none
                  | true =>
                    match execB (pureOf p) call N fb t.length body t1 (h1.set o ⟨ver, .loop 1 p1 t2 fb2 f2 k2⟩) with
                    | some (x, _, h2) =>
                      match h2[o]? with
                      | some ⟨v2, .loop _ _ t3 fb3 f3 k3⟩ =>
                        match Nat.beq v2 ver with
                        | false => none
                        | true =>
                          match x with
                          | .norm => some (.bool true, h2.set o ⟨ver, .loop 0 none t3 fb3 f3 k3⟩)
                          | .exit id => some (.bool false, h2.set o ⟨ver, .loop 2 (some (some id)) t3 fb3 f3 k3⟩)
                          | .ret => some (.bool false, h2.set o ⟨ver, .loop 2 (some none) t3 fb3 f3 k3⟩)
                      | _ => none
                    | none => none
                | _ => none
              | _ => none
          | none => none
        | _ => none
    | _ => none
  | _ => none
theorem setPs_B (n : Nat) : ∀ (ps : List (Nat × V)) (l : Sl), ps.foldl (fun t p => t.set p.1 p.2) (fr n l) = fr n (ps.foldl (fun l p => insB p.1 p.2 l) l)
  | [], l => rfl
  | p :: ps, l => by
    rw [List.foldl_cons, List.foldl_cons, fr_set, ← insB_eq]
    exact setPs_B n ps _
theorem yield_B {p : AProg} {call : Caller} {N : Nat} {args : List V} {h : Heap} {r : V × Heap} (H : yieldB p call N args h = some r) : yieldA p call N args h = some r := by
  unfold yieldB at H
  split at H
  case h_2 => cases H
  rename_i o ver xs
  split at H
  case h_2 => cases H
  rename_i v st pd t fb f k hob
  split at H
  case h_1 => cases H
  rename_i hv
  have hv := Nat.eq_of_beq_eq_true hv
  split at H
  case h_2 => cases H
  rename_i af haf
  split at H
  case h_2 => cases H
  rename_i ps asn body hra
  split at H
  case h_1 => cases H
  rename_i hl
  have hl := Nat.eq_of_beq_eq_true hl
  split at H
  case h_2 => cases H
  rename_i t1 h1 he1
  split at H
  case h_2 => cases H
  rename_i v1 p1 t2 fb2 f2 k2 ho1
  split at H
  case h_1 => cases H
  rename_i hv1
  have hv1 := Nat.eq_of_beq_eq_true hv1
  split at H
  case h_2 => cases H
  rename_i x t4 h2 he2
  split at H
  case h_2 => cases H
  rename_i v2 st3 pd3 t3 fb3 f3 k3 ho2
  split at H
  case h_1 => cases H
  rename_i hv2
  have hv2 := Nat.eq_of_beq_eq_true hv2
  have e1 : exec (pureOf p) call N fb asn (setPs ps xs t) h = some (.norm, fr t.length t1, h1) := by
    have := exec_B (pureOf p) call N fb t.length asn ((ps.zip xs).foldl (fun l p => insB p.1 p.2 l) (toB 0 t)) h
    rw [← setPs_B, fr_toB, he1] at this
    exact this
  have e2 := exec_B (pureOf p) call N fb t.length body t1 (h1.set o ⟨ver, .loop 1 p1 t2 fb2 f2 k2⟩)
  rw [he2] at e2
  unfold yieldA
  simp only [hob, hv, ↓reduceIte, haf, hra, hl, e1, ho1, hv1, e2, Option.map_some, ho2, hv2]
  exact H
def resB (get : Nat → Option Ob) (n : Nat) (l : Sl) : List ARes → Option (List V)
  | [] => some []
  | r :: rs => match (match r with | .tmp i => some (evB n l (.tmp i)) | .cell i ag => (loadA get (nAg ag) (evB n l (.tmp i))).bind (packA ag)), resB get n l rs with | some v, some vs => some (v :: vs) | _, _ => none
theorem res_B (get : Nat → Option Ob) (n : Nat) (l : Sl) : ∀ (rs : List ARes), resA get (fr n l) rs = resB get n l rs
  | [] => rfl
  | r :: rs => by
    have e : resA1 get (fr n l) r = (match r with | .tmp i => some (evB n l (.tmp i)) | .cell i ag => (loadA get (nAg ag) (evB n l (.tmp i))).bind (packA ag)) := by
      rw [evB_eq]
      cases r <;> rfl
    simp only [resA, resB, e, res_B get n l rs]
    cases r <;> rfl
def bodyB (p : AProg) (call : Caller) (N fb : Nat) (fn : AFunc) (args : List V) (h : Heap) : Option (V × Heap) :=
  match Nat.ble args.length fn.nt with
  | false => none
  | true =>
    match execB (pureOf p) call N fb fn.nt fn.body (argsF 0 args) h with
    | some (.norm, l, h') => match resB (fun o => h'[o]?) fn.nt l fn.res with | some vs => some (packR vs, h') | none => none
    | some (.ret, l, h') => match resB (fun o => h'[o]?) fn.nt l fn.res with | some vs => some (packR vs, h') | none => none
    | _ => none
theorem body_B {p : AProg} {call : Caller} {N fb : Nat} {fn : AFunc} {args : List V} {h : Heap} {r : V × Heap} (H : bodyB p call N fb fn args h = some r) : bodyA p call N fb fn args h = some r := by
  unfold bodyB at H
  split at H
  case h_1 => cases H
  rename_i hle
  have hle := Nat.le_of_ble_eq_true hle
  unfold bodyA
  rw [fr_args args fn.nt hle, exec_B]
  split at H
  · rename_i l h' he
    rw [he]
    simp only [Option.map_some, res_B]
    exact H
  · rename_i l h' he
    rw [he]
    simp only [Option.map_some, res_B]
    exact H
  · cases H
def callB (p : AProg) (N : Nat) : Nat → Caller
  | 0, _, _, _ => none
  | n + 1, f, args, h =>
    match Nat.beq f YLD with
    | true => yieldB p (callB p N n) N args h
    | false =>
    match p[f]? with
    | some (some fn) =>
      match Nat.beq args.length fn.nargs with
      | false => none
      | true =>
        match fn.mode with
        | .keep => bodyB p (callB p N n) N h.length fn args (h ++ deads fn.sites)
        | .auto =>
          match V.freeL args with
          | true =>
            match bodyB p (callB p N n) N 0 fn args (deads fn.sites) with
            | some (v, h') => match V.shut (fun o => h'[o]?) sealDepth v with | some v' => some (v', h) | none => none
            | none => none
          | false => bodyB p (callB p N n) N h.length fn args (h ++ deads fn.sites)
        | .pure =>
          match V.freeL args with
          | true =>
            match bodyB p (callB p N n) N 0 fn args (deads fn.sites) with
            | some (v, h') => match V.shut (fun o => h'[o]?) sealDepth v with | some v' => some (v', h) | none => none
            | none => none
          | false => none
        | .look =>
          match args.mapM (V.shut (fun o => h[o]?) sealDepth) with
          | some args' =>
            match bodyB p (callB p N n) N 0 fn args' (deads fn.sites) with
            | some (v, _) => match v.plain with | true => some (v, h) | false => none
            | none => none
          | none => none
    | _ => none
theorem call_B (p : AProg) (N : Nat) : ∀ (n : Nat), Sub (callB p N n) (callA p N n)
  | 0 => by intro f args h r H; simp [callB] at H
  | n + 1 => by
    have ih := call_B p N n
    have B : ∀ {fb : Nat} {fn : AFunc} {args : List V} {h : Heap} {r : V × Heap}, bodyB p (callB p N n) N fb fn args h = some r → bodyA p (callA p N n) N fb fn args h = some r := fun H => bodyA_mono ih (Nat.le_refl _) (body_B H)
    intro f args h r H
    unfold callB at H
    unfold callA
    split at H
    · rename_i hy
      rw [if_pos (Nat.eq_of_beq_eq_true hy)]
      exact yieldA_mono ih (Nat.le_refl _) (yield_B H)
    · rename_i hy
      rw [if_neg (Nat.ne_of_beq_eq_false hy)]
      split at H
      case h_2 => cases H
      rename_i fn hf
      simp only [hf]
      split at H
      case h_1 => cases H
      rename_i hl
      rw [if_pos (Nat.eq_of_beq_eq_true hl)]
      split at H
      · rename_i hm; simp only [hm]; exact B H
      · rename_i hm
        simp only [hm]
        split at H
        · rename_i hfr
          rw [if_pos hfr]
          split at H
          · rename_i hb
            rw [B hb]
            exact H
          · cases H
        · rename_i hfr
          rw [if_neg (by rw [hfr]; decide)]
          exact B H
      · rename_i hm
        simp only [hm]
        split at H
        · rename_i hfr
          rw [if_pos hfr]
          split at H
          · rename_i hb
            rw [B hb]
            exact H
          · cases H
        · cases H
      · rename_i hm
        simp only [hm]
        split at H
        · rename_i hs
          simp only [hs]
          split at H
          · rename_i hb
            rw [B hb]
            split at H
            · rename_i hp
              simp only [hp, ↓reduceIte]
              exact H
            · cases H
          · cases H
        · cases H
theorem closed_quick {p : AProg} {N0 n0 : Nat} {f : FuncId} {args : List V} {v : V} (hm : pureOf p f = .pure) (H : callB p N0 n0 f args [] = some (v, [])) {N n : Nat} (hN : N0 ≤ N) (hn : n0 ≤ n) (h : Heap) (hy : f ≠ YLD := by decide) : callA p N n f args h = some (v, h) :=
  closed_call hm (call_B p N0 n0 f args [] (v, []) H) hN hn h hy
end Go.Am


set_option linter.unusedVariables false
set_option linter.unusedSimpArgs false
namespace Go.Am
end Go.Am


set_option linter.unusedVariables false
set_option linter.unusedSimpArgs false
namespace Go.Am
variable {P : Program}
inductive Sh where
  | int (k : IntKind)
  | bool
  | str
  | unit
  | pair (a b : Sh)
  | arr (n : Nat) (e : Sh)
  | sl (ag : Bool) (s : Nat) (e : Sh)
  deriving DecidableEq
def elemV (ag : Bool) (u : List V) : V := match ag with | true => .agg u | false => u.headD .junk
def InSh : Sh → List V → Prop
  | .int k, vs => ∃ n, vs = [.int k n] ∧ (Lit.int k n).wf = true
  | .bool, vs => ∃ b, vs = [.bool b]
  | .str, vs => ∃ s, vs = [.str s] ∧ s.length ≤ maxLen
  | .unit, vs => vs = []
  | .pair a b, vs => ∃ u v, vs = u ++ v ∧ InSh a u ∧ InSh b v
  | .arr n e, vs => ∃ us : List (List V), us.length = n ∧ vs = us.flatten ∧ ∀ u ∈ us, InSh e u
  | .sl ag s e, vs => vs = [.nils] ∨ ∃ (us : List (List V)) (c : Nat), vs = [.sl (us.map (elemV ag)) s (some c)] ∧ us.length ≤ c ∧ c ≤ maxLen ∧ ∀ u ∈ us, u.length = s ∧ InSh e u
def aggB (P : Program) (t : TypeId) : Bool := match P.underlying t with | some (.struct _) | some (.array _ _) => true | _ => false
def contig (P : Program) (tot : Nat) : Nat → List Field → Bool
  | off, [] => off == tot
  | off, f :: fs => f.offset == off && contig P tot (off + P.cellsOf f.type) fs
def shFields (g : TypeId → Option Sh) : List Field → Option Sh
  | [] => some .unit
  | f :: fs => match g f.type, shFields g fs with | some a, some b => some (.pair a b) | _, _ => none
def shF (P : Program) : Nat → TypeId → Option Sh
  | 0, _ => none
  | m + 1, t =>
    match P.underlying t with
    | some .bool => some .bool
    | some (.int k) => some (.int k)
    | some .string => some .str
    | some (.struct fs) => if contig P (P.cellsOf t) 0 fs.toList then shFields (shF P m) fs.toList else none
    | some (.array n e) => if n * P.cellsOf e = P.cellsOf t then (shF P m e).map (.arr n) else none
    | some (.slice e) => if 0 < P.cellsOf e ∧ (aggB P e = true ∨ P.cellsOf e = 1) then (shF P m e).map (.sl (aggB P e) (P.cellsOf e)) else none
    | _ => none
def argG (P : Program) (w : World) : G := ⟨fun _ _ => none, fun b => b < w.heap.size, codesOf P⟩
section
variable {H : Type} {enc : TypeId × Value → H} {w : World} {sp : Nat → Bool} {held : Bool} {g : G}
theorem cells_one {v : V} {x : Value} (h : VRel g w v x) : Cells g w [v] [x] := by
  refine ⟨rfl, fun i c y h1 h2 => ?_⟩
  cases i with
  | zero => simp at h1 h2; subst h1; subst h2; exact h
  | succ i => simp at h1
theorem cells_app {u v : List V} {xs ys : List Value} (h1 : Cells g w u xs) (h2 : Cells g w v ys) : Cells g w (u ++ v) (xs ++ ys) := cells_append h1 h2
theorem fields_in {m : Nat} {cs : List Value} {R : TypeId → List Value → Prop} (ih : ∀ (t : TypeId) (S : Sh) (cs : List Value), shF P m t = some S → R t cs → ∃ vs, Cells g w vs cs ∧ InSh S vs) :
    ∀ (fs : List Field) (off : Nat) (S : Sh), contig P cs.length off fs = true → shFields (shF P m) fs = some S →
      (∀ f ∈ fs, R f.type ((cs.drop f.offset).take (P.cellsOf f.type))) → ∃ vs, Cells g w vs (cs.drop off) ∧ InSh S vs
  | [], off, S, hc, hS, hx => by
    simp only [contig, beq_iff_eq] at hc
    simp only [shFields, Option.some.injEq] at hS
    subst hS
    exact ⟨[], by subst hc; simp [Cells], rfl⟩
  | f :: fs, off, S, hc, hS, hx => by
    simp only [contig, Bool.and_eq_true, beq_iff_eq] at hc
    obtain ⟨rfl, hc⟩ := hc
    simp only [shFields] at hS
    split at hS
    case h_2 => cases hS
    rename_i a b ha hb
    cases hS
    obtain ⟨u, hu, hua⟩ := ih f.type a _ ha (hx f (by simp))
    obtain ⟨v, hv, hvb⟩ := fields_in ih fs (f.offset + P.cellsOf f.type) b hc hb (fun f hf => hx f (by simp [hf]))
    refine ⟨u ++ v, ?_, u, v, rfl, hua, hvb⟩
    have := cells_app hu hv
    rwa [← List.drop_drop, List.take_append_drop] at this
theorem elems_in {S : Sh} {k : Nat} {cs : List Value} {R : List Value → Prop} (ih : ∀ (cs : List Value), R cs → ∃ vs, Cells g w vs cs ∧ InSh S vs) :
    ∀ (n : Nat), (∀ i, i < n → R ((cs.drop (i * k)).take k)) → ∃ us : List (List V), us.length = n ∧ Cells g w us.flatten (cs.take (n * k)) ∧ (∀ u ∈ us, InSh S u)
  | 0, hx => ⟨[], rfl, by simp [Cells], by simp⟩
  | n + 1, hx => by
    obtain ⟨us, e1, e2, e3⟩ := elems_in ih n (fun i hi => hx i (by omega))
    obtain ⟨u, hu, hus⟩ := ih _ (hx n (by omega))
    refine ⟨us ++ [u], by simp [e1], ?_, ?_⟩
    · have := cells_app e2 hu
      rw [List.flatten_append]
      simp only [List.flatten_cons, List.flatten_nil, List.append_nil]
      rw [Nat.add_mul, Nat.one_mul, List.take_add]
      exact this
    · intro v hv
      simp only [List.mem_append, List.mem_singleton] at hv
      rcases hv with hv | rfl
      · exact e3 v hv
      · exact hus
theorem spot_of {P : Program} {w : World} {a : Addr} {n : Nat} {cs : List Value} (hn : 0 < n) (h : w.cells? 0 a n = some cs) : a.spot = none ∧ a.block < w.heap.size := by
  simp only [World.cells?, Nat.zero_le, ↓reduceIte] at h
  have h0 := mapM_some_get h 0 0 (by simp [hn])
  have hl : cs.length = n := by simpa using mapM_some_length h
  rw [List.getElem?_eq_getElem (by omega)] at h0
  have ha : a.add 0 = a := by unfold Addr.add; rw [if_pos rfl]
  rw [ha] at h0
  unfold World.cell? at h0
  split at h0
  · rename_i hb
    refine ⟨?_, ?_⟩
    · split at h0
      · cases h0
      · rename_i hs
        simpa using hs
    · rcases Nat.lt_or_ge a.block w.heap.size with h | h
      · exact h
      · rw [Array.getElem?_eq_none h] at hb; cases hb
  · cases h0
theorem sl_in {m : Nat} {t e : TypeId} {S' : Sh} (hsp : ∀ b, sp b = true) (ih : ∀ (n : Nat) (cs : List Value) (x : DataW H × List MemPlace), DataW.trod enc P w 0 sp held n e cs = some x → ∃ vs, Cells (argG P w) w vs cs ∧ InSh S' vs)
    (hu : P.underlying t = some (.slice e)) (hpos : 0 < P.cellsOf e) (hone : aggB P e = true ∨ P.cellsOf e = 1) (hS' : shF P m e = some S') {fuel : Nat} {cs : List Value} {x : DataW H × List MemPlace} (hd : DataW.trod enc P w 0 sp held fuel t cs = some x) :
    ∃ vs, Cells (argG P w) w vs cs ∧ InSh (.sl (aggB P e) (P.cellsOf e) S') vs := by
  rcases DataW.trod_slice hu hd with ⟨h1, -⟩ | ⟨a, len, cap, elems, rest, n, rfl, h1, -, -, hlc, hcm, hel, hx, hrest, -⟩
  · cases h1
    exact ⟨[.nils], cells_one .nils, .inl rfl⟩
  · cases h1
    rcases Nat.eq_zero_or_pos cap with h0 | hcap
    · subst h0
      have hl0 : len = 0 := by omega
      subst hl0
      exact ⟨[.sl [] (P.cellsOf e) (some 0)], cells_one (.sl0 _ _ a (fun k hk => by cases hk; rfl)), .inr ⟨[], 0, rfl, Nat.le_refl _, Nat.zero_le _, fun u hu => by cases hu⟩⟩
    have hhas : a.spot = none ∧ a.block < w.heap.size := by
      rcases Nat.eq_zero_or_pos len with h0 | hlen
      · subst h0
        obtain ⟨hr1, hr2⟩ := hrest (hsp _)
        have h1 := hr2 0 (by omega)
        rw [List.getElem?_eq_getElem (by omega)] at h1
        simp only [Option.bind_eq_some_iff] at h1
        obtain ⟨cs, h2, -⟩ := h1
        rw [show (0 + 0) * P.cellsOf e = 0 by simp, show a.add 0 = a by unfold Addr.add; rw [if_pos rfl]] at h2
        exact spot_of (P := P) hpos h2
      · have h1 := hx 0 hlen
        rw [List.getElem?_eq_getElem (by omega)] at h1
        simp only [Option.bind_eq_some_iff] at h1
        obtain ⟨cs, h2, -⟩ := h1
        rw [show 0 * P.cellsOf e = 0 by simp, show a.add 0 = a by unfold Addr.add; rw [if_pos rfl]] at h2
        exact spot_of (P := P) hpos h2
    obtain ⟨hspot, hlt⟩ := hhas
    obtain ⟨ab, ao, asp⟩ := a
    simp only at hspot hlt
    subst hspot
    -- every element's cells
    have hel : ∀ i, i < len → ∃ cs us, (at_ ab ao).add (i * P.cellsOf e) = at_ ab (ao + i * P.cellsOf e) ∧ w.cells? 0 (at_ ab (ao + i * P.cellsOf e)) (P.cellsOf e) = some cs ∧ Cells (argG P w) w us cs ∧ InSh S' us := by
      intro i hi
      have h1 := hx i hi
      rw [List.getElem?_eq_getElem (by omega)] at h1
      simp only [Option.bind_eq_some_iff] at h1
      obtain ⟨cs, h2, h3⟩ := h1
      obtain ⟨us, h4, h5⟩ := ih n cs _ h3
      rw [show (⟨ab, ao, none⟩ : Addr) = at_ ab ao from rfl, add_at] at h2
      exact ⟨cs, us, add_at _ _ _, h2, h4, h5⟩
    have hcell? : ∀ i cs, w.cells? 0 (at_ ab (ao + i * P.cellsOf e)) (P.cellsOf e) = some cs → cs.length = P.cellsOf e ∧ ∀ j, j < P.cellsOf e → w.cell? (at_ ab (ao + (i * P.cellsOf e + j))) = cs[j]? := by
      intro i cs h
      simp only [World.cells?, Nat.zero_le, ↓reduceIte] at h
      have hl : cs.length = P.cellsOf e := by simpa using mapM_some_length h
      refine ⟨hl, fun j hj => ?_⟩
      have := mapM_some_get h j j (by simp [hj])
      rw [add_at, Nat.add_assoc] at this
      exact this
    have hel' : ∀ i, ∃ p : List Value × List V, i < len → w.cells? 0 (at_ ab (ao + i * P.cellsOf e)) (P.cellsOf e) = some p.1 ∧ Cells (argG P w) w p.2 p.1 ∧ InSh S' p.2 := fun i => by
      by_cases hi : i < len
      · obtain ⟨cs, us, -, h2, h3, h4⟩ := hel i hi
        exact ⟨(cs, us), fun _ => ⟨h2, h3, h4⟩⟩
      · exact ⟨([], []), fun h => absurd h hi⟩
    obtain ⟨f, hf⟩ := Classical.axiomOfChoice hel'
    obtain ⟨cs, hcs'⟩ : ∃ cs : Nat → List Value, cs = fun i => (f i).1 := ⟨_, rfl⟩
    obtain ⟨us, hus'⟩ : ∃ us : Nat → List V, us = fun i => (f i).2 := ⟨_, rfl⟩
    have h2 : ∀ i, i < len → w.cells? 0 (at_ ab (ao + i * P.cellsOf e)) (P.cellsOf e) = some (cs i) := fun i hi => by rw [hcs']; exact (hf i hi).1
    have h3 : ∀ i, i < len → Cells (argG P w) w (us i) (cs i) := fun i hi => by rw [hcs', hus']; exact (hf i hi).2.1
    have h4 : ∀ i, i < len → InSh S' (us i) := fun i hi => by rw [hus']; exact (hf i hi).2.2
    refine ⟨[.sl ((List.range len).map fun i => elemV (aggB P e) (us i)) (P.cellsOf e) (some cap)], ?_, .inr ⟨(List.range len).map us, cap, ?_, by simpa using hlc, hcm, ?_⟩⟩
    · have hus : ∀ i, i < len → (us i).length = P.cellsOf e := fun i hi => by
        have := (h3 i hi).1
        have := (hcell? i _ (h2 i hi)).1
        omega
      have hcells : ∀ i, i < len → (elemV (aggB P e) (us i)).cells = us i := by
        intro i hi
        cases hag : aggB P e with
        | true => rfl
        | false =>
          have hk : P.cellsOf e = 1 := by rcases hone with h | h; rw [hag] at h; cases h; exact h
          have hl := hus i hi
          rw [hk] at hl
          obtain ⟨x, hx⟩ : ∃ x, us i = [x] := by
            cases hu : us i with
            | nil => rw [hu] at hl; cases hl
            | cons x l => cases l with | nil => exact ⟨x, rfl⟩ | cons y l => rw [hu] at hl; simp at hl
          rw [hx]
          have h5 := h4 i hi
          rw [hx] at h5
          have hone' : x.cells = [x] := by
            have : ∀ (S : Sh) (m : Nat) (t : TypeId), aggB P t = false → shF P m t = some S → InSh S [x] → x.cells = [x] := by
              intro S m t ht hS h
              cases m with
              | zero => simp [shF] at hS
              | succ m =>
                simp only [shF] at hS
                unfold aggB at ht
                split at hS <;> rename_i hu <;> simp only [hu] at ht
                · cases hS; obtain ⟨b, h⟩ := h; cases h; rfl
                · cases hS; obtain ⟨b, h, -⟩ := h; cases h; rfl
                · cases hS; obtain ⟨b, h, -⟩ := h; cases h; rfl
                · cases ht
                · cases ht
                · split at hS
                  case isFalse => cases hS
                  simp only [Option.map_eq_some_iff] at hS
                  obtain ⟨S', -, rfl⟩ := hS
                  rcases h with h | ⟨us, c, h, -⟩ <;> cases h <;> rfl
                · cases hS
            exact this S' m e hag hS' h5
          exact hone'
      have hlen : ((List.range len).map fun i => elemV (aggB P e) (us i)).length = len := by simp
      have key := VRel.sl (g := argG P w) (w := w) ((List.range len).map fun i => elemV (aggB P e) (us i)) (P.cellsOf e) (some cap) ab ao cap
        (fun j => (w.cell? (at_ ab (ao + j))).getD undef) (fun _ => hlt) (by rw [hlen]; exact hlc) (fun k hk => by cases hk; rfl) ?_ ?_ ?_
      · rw [hlen] at key; exact cells_one key
      · intro i x hx
        simp only [List.getElem?_map, Option.map_eq_some_iff] at hx
        obtain ⟨j, hj, rfl⟩ := hx
        have hj' : j < len := by
          have := List.mem_of_getElem? hj
          simpa using this
        rw [hcells j hj', hus j hj']
      · intro j hj
        rw [hlen] at hj
        have hq : j / P.cellsOf e < len := Nat.div_lt_of_lt_mul (by rw [Nat.mul_comm]; exact hj)
        obtain ⟨hl, hc⟩ := hcell? _ _ (h2 _ hq)
        have := hc (j % P.cellsOf e) (Nat.mod_lt _ hpos)
        rw [Nat.mul_comm, Nat.div_add_mod] at this
        rw [this, List.getElem?_eq_getElem (by rw [hl]; exact Nat.mod_lt _ hpos)]
        rfl
      · intro i x j y hx hy
        simp only [List.getElem?_map, Option.map_eq_some_iff] at hx
        obtain ⟨k, hk, rfl⟩ := hx
        have hk' : k < len := by
          have := List.mem_of_getElem? hk
          simpa using this
        have hki : k = i := by
          obtain ⟨h, e⟩ := List.getElem?_eq_some_iff.1 hk
          simpa using e.symm
        subst hki
        rw [hcells k hk'] at hy
        obtain ⟨hl, hc⟩ := hcell? _ _ (h2 _ hk')
        have hj' : j < P.cellsOf e := by
          rw [← hus k hk']
          exact (List.getElem?_eq_some_iff.1 hy).1
        rw [hc j hj', List.getElem?_eq_getElem (by rw [hl]; exact hj')]
        exact (h3 k hk').2 j y _ hy (List.getElem?_eq_getElem _)
    · rw [List.map_map]
      rfl
    · intro u hu'
      obtain ⟨i, hi, rfl⟩ := List.mem_map.1 hu'
      have hi' : i < len := by simpa using hi
      refine ⟨?_, h4 i hi'⟩
      have := (h3 i hi').1
      have := (hcell? i _ (h2 i hi')).1
      omega
theorem flat_in (hsp : ∀ b, sp b = true) : ∀ (m : Nat) (t : TypeId) (S : Sh) (fuel : Nat) (cs : List Value) (x : DataW H × List MemPlace), shF P m t = some S → DataW.trod enc P w 0 sp held fuel t cs = some x → ∃ vs, Cells (argG P w) w vs cs ∧ InSh S vs
  | 0, t, S, fuel, cs, x, hS, h => by simp [shF] at hS
  | m + 1, t, S, fuel, cs, x, hS, h => by
    simp only [shF] at hS
    split at hS <;> rename_i hu
    · cases hS
      obtain ⟨b, rfl, -⟩ := DataW.trod_bool hu h
      exact ⟨[.bool b], cells_one (.bool b), b, rfl⟩
    · rename_i k
      cases hS
      obtain ⟨n, rfl, -, hw⟩ := DataW.trod_int hu h
      exact ⟨[.int k n], cells_one (.int k n), n, rfl, hw⟩
    · cases hS
      obtain ⟨s, rfl, -, hs⟩ := DataW.trod_string hu h
      exact ⟨[.str s.data.toList], cells_one (.str s.data.toList), _, rfl, by simpa using hs⟩
    · rename_i fs
      split at hS
      case isFalse => cases hS
      rename_i hc
      obtain ⟨xs, n, rfl, -, hl, hxl, hx⟩ := DataW.trod_struct hu h
      rw [← hl] at hc
      have := fields_in (g := argG P w) (R := fun t cs => ∃ x, DataW.trod enc P w 0 sp held n t cs = some x) (fun t S cs hS ⟨x, hx⟩ => flat_in hsp m t S n cs x hS hx) fs.toList 0 S hc hS (fun f hf => by
        obtain ⟨i, hi, rfl⟩ := List.getElem_of_mem hf
        have hi' : i < fs.size := by simpa using hi
        refine ⟨xs[i], ?_⟩
        rw [hx i _ (by simp [hi']), List.getElem?_eq_getElem])
      simpa using this
    · rename_i n e
      split at hS
      case isFalse => cases hS
      rename_i hc
      simp only [Option.map_eq_some_iff] at hS
      obtain ⟨S', hS', rfl⟩ := hS
      obtain ⟨xs, k, rfl, -, hl, hxl, hx⟩ := DataW.trod_array hu h
      obtain ⟨us, h1, h2, h3⟩ := elems_in (g := argG P w) (w := w) (k := P.cellsOf e) (cs := cs) (R := fun cs => ∃ x, DataW.trod enc P w 0 sp held k e cs = some x) (fun cs ⟨x, hx⟩ => flat_in hsp m e S' k cs x hS' hx) n (fun i hi => ⟨xs[i], by rw [hx i hi, List.getElem?_eq_getElem]⟩)
      rw [hc, ← hl, List.take_length] at h2
      exact ⟨us.flatten, h2, us, h1, rfl, h3⟩
    · rename_i e
      split at hS
      case isFalse => cases hS
      rename_i hc
      simp only [Option.map_eq_some_iff] at hS
      obtain ⟨S', hS', rfl⟩ := hS
      exact sl_in (m := m) hsp (fun n cs x h => flat_in hsp m e S' n cs x hS' h) hu hc.1 hc.2 hS' h
    · cases hS
def shP (P : Program) (m : Nat) (t : TypeId) : Option Sh := shF P m t
def InP (ag : Bool) (S : Sh) (v : V) : Prop := match ag with | true => ∃ cs, v = .agg cs ∧ InSh S cs | false => InSh S [v]
theorem cells_of_agg {xs : Array Value} : (Value.agg xs).cells = xs := rfl
theorem okWide_agg {r : Reach} {b0 : Nat} {t : TypeId} {v : Value} (ha : aggB P t = true) (hv : Value.okWide P w r b0 t v) : ∃ cs, v = .agg cs := by
  unfold aggB at ha
  unfold Value.okWide at hv
  split at ha <;> rename_i hu <;> simp only [hu] at hv
  · exact ⟨hv.choose, hv.choose_spec.1⟩
  · exact ⟨hv.choose, hv.choose_spec.1⟩
  · cases ha
theorem okWide_cell {r : Reach} {b0 : Nat} {t : TypeId} {v : Value} (ha : aggB P t = false) (hv : Value.okWide P w r b0 t v) : Cell.okWide P w r b0 t v := by
  unfold aggB at ha
  unfold Value.okWide at hv
  split at ha
  · cases ha
  · cases ha
  · rename_i hu1 hu2
    split at hv
    · rename_i h2; exact absurd h2 (hu1 _)
    · rename_i h2; exact absurd h2 (hu2 _ _)
    · exact hv
theorem cell_not_agg {r : Reach} {b0 : Nat} {t : TypeId} {xs : Array Value} (hv : Cell.okWide P w r b0 t (.agg xs)) : False := by
  unfold Cell.okWide at hv
  split at hv <;> first | (rename_i h1 h2; cases h2; done) | skip
  unfold Cell.ok at hv
  split at hv <;> simp_all
theorem param_in {m : Nat} {t : TypeId} {S : Sh} {v : Value} {r : Reach} {b0 : Nat} {d : DataW H} {ps : List MemPlace} (hsp : ∀ b, sp b = true) (hS : shP P m t = some S) (hok : Value.okWide P w r b0 t v)
    (hd : DataW.Trod enc P w 0 sp held t v d ps) : ∃ u, VRel (argG P w) w u v ∧ InP (aggB P t) S u := by
  obtain ⟨fuel, hd⟩ := hd
  unfold shP at hS
  cases hag : aggB P t with
  | true =>
    obtain ⟨xs, rfl⟩ := okWide_agg hag hok
    obtain ⟨vs, h1, h2⟩ := flat_in hsp m t S fuel _ _ hS hd
    exact ⟨.agg vs, by have := Cells.agg h1; rwa [cells_of_agg, Array.toArray_toList] at this, vs, rfl, h2⟩
  | false =>
    have hcell := okWide_cell hag hok
    have hcs : v.cells.toList = [v] := by
      cases v <;> first | rfl | exact (cell_not_agg hcell).elim
    rw [hcs] at hd
    obtain ⟨vs, h1, h2⟩ := flat_in hsp m t S fuel _ _ hS hd
    obtain ⟨x, rfl⟩ : ∃ x, vs = [x] := by
      have := h1.1
      cases vs with
      | nil => cases this
      | cons x l => cases l with | nil => exact ⟨x, rfl⟩ | cons y l => simp at this
    exact ⟨x, h1.2 0 x v rfl rfl, h2⟩
theorem InSh.free : ∀ {S : Sh} {vs : List V}, InSh S vs → V.freeL vs = true
  | .int k, vs, ⟨n, h, _⟩ => by subst h; rfl
  | .bool, vs, ⟨n, h⟩ => by subst h; rfl
  | .str, vs, ⟨n, h, _⟩ => by subst h; rfl
  | .unit, vs, h => by cases h; rfl
  | .pair a b, vs, ⟨u, v, h, h1, h2⟩ => by subst h; rw [freeL_append, InSh.free h1, InSh.free h2]; rfl
  | .arr n e, vs, ⟨us, hn, h, h1⟩ => by
    subst h
    clear hn
    induction us with
    | nil => rfl
    | cons u us ih => rw [List.flatten_cons, freeL_append, InSh.free (h1 u (by simp)), ih (fun v hv => h1 v (by simp [hv]))]; rfl
  | .sl ag s e, vs, h => by
    rcases h with rfl | ⟨us, c, rfl, -, -, h1⟩
    · rfl
    · rw [freeL_cons, freeL_nil, Bool.and_true, free_sl]
      clear c
      induction us with
      | nil => rfl
      | cons u us ih =>
        have hu := InSh.free (h1 u (by simp)).2
        rw [List.map_cons, freeL_cons, ih (fun v hv => h1 v (by simp [hv])), Bool.and_true]
        cases ag with
        | true => exact hu
        | false =>
          cases u with
          | nil => rfl
          | cons x u => rw [freeL_cons, Bool.and_eq_true] at hu; exact hu.1
theorem InP.free {ag : Bool} {S : Sh} {v : V} (h : InP ag S v) : v.free = true := by
  cases ag with
  | true => obtain ⟨cs, rfl, h⟩ := h; exact h.free
  | false => have := InSh.free h; rw [freeL_cons, Bool.and_eq_true] at this; exact this.1
end
end Go.Am


set_option linter.unusedVariables false
set_option linter.unusedSimpArgs false
namespace Go.Am
theorem in_i64 {vs : List V} (h : InSh (.int .i64) vs) : ∃ n, vs = [.int .i64 n] ∧ -9223372036854775808 ≤ n ∧ n ≤ 9223372036854775807 := by
  obtain ⟨n, rfl, hw⟩ := h
  exact ⟨n, rfl, by simpa using bounds_i64 hw⟩
theorem in_u8 {vs : List V} (h : InSh (.int .u8) vs) : ∃ n, vs = [.int .u8 n] ∧ 0 ≤ n ∧ n ≤ 255 := by
  obtain ⟨n, rfl, hw⟩ := h
  exact ⟨n, rfl, by simpa using bounds_u8 hw⟩
end Go.Am


set_option linter.unusedVariables false
set_option linter.unusedSimpArgs false
set_option maxRecDepth 10000
namespace Go.Am.T
attribute [local congr] selV_congr impB_congr
theorem lt_of_get {h : Heap} {o : Nat} {x : Ob} (ho : h[o]? = some x) : o < h.length := (List.getElem?_eq_some_iff.1 ho).1
def By (l : List Int) (b : V) : Prop := (b = .nils ∧ l = []) ∨ ∃ c, b = .sl (l.map (V.int .u8)) 1 c
theorem flat_ints (k : IntKind) : ∀ (l : List Int), (l.map (V.int k)).flatMap V.cells = l.map (V.int k)
  | [] => rfl
  | x :: l => by rw [List.map_cons, List.flatMap_cons, flat_ints k l]; rfl
theorem By.free {l : List Int} {b : V} (h : By l b) : b.free = true := by
  rcases h with ⟨rfl, -⟩ | ⟨c, rfl⟩
  · rfl
  · exact freeL_ints _ _
theorem By.objs {l : List Int} {b : V} (h : By l b) : b.objs = [] := by
  rcases h with ⟨rfl, -⟩ | ⟨c, rfl⟩
  · rfl
  · exact objsL_ints _ _
theorem By.len {l : List Int} {b : V} (h : By l b) : lenA b = some l.length := by
  rcases h with ⟨rfl, rfl⟩ | ⟨c, rfl⟩
  · rfl
  · simp [lenA]
theorem By.nstr {l : List Int} {b : V} (h : By l b) : ∀ s, b ≠ .str s := by
  rcases h with ⟨rfl, -⟩ | ⟨c, rfl⟩ <;> exact fun _ => V.noConfusion
theorem By.nagg {l : List Int} {b : V} (h : By l b) : ∀ s, b ≠ .agg s := by
  rcases h with ⟨rfl, -⟩ | ⟨c, rfl⟩ <;> exact fun _ => V.noConfusion
theorem By.ntup {l : List Int} {b : V} (h : By l b) : ∀ s, b ≠ .tup s := by
  rcases h with ⟨rfl, -⟩ | ⟨c, rfl⟩ <;> exact fun _ => V.noConfusion
theorem By.njunk {l : List Int} {b : V} (h : By l b) : b ≠ .junk := by
  rcases h with ⟨rfl, -⟩ | ⟨c, rfl⟩ <;> exact V.noConfusion
theorem By.one {l : List Int} {b : V} (h : By l b) : b.oneCell = true := by
  rcases h with ⟨rfl, -⟩ | ⟨c, rfl⟩ <;> rfl
theorem By.cells {l : List Int} {b : V} (h : By l b) : b.cells = [b] := by
  rcases h with ⟨rfl, -⟩ | ⟨c, rfl⟩ <;> rfl
theorem By.first {l : List Int} {b : V} (h : By l b) (get : Nat → Option Ob) : firstA get 1 l.length b = some (l.map (V.int .u8)) := by
  rcases h with ⟨rfl, rfl⟩ | ⟨c, rfl⟩
  · rfl
  · have := firstA_sl (get := get) (L := l.map (V.int .u8)) (s := 1) (c := c)
    rw [List.length_map, flat_ints] at this
    exact this
theorem clone_spec {N n : Nat} (hn : 1 ≤ n) {l : List Int} {b : V} (hb : By l b) (hl : l.length ≤ 1000) : ∃ b', By l b' ∧ ∀ h, callA am N n 23 [b] h = some (b', h) := by
  obtain ⟨n, rfl⟩ : ∃ m, n = m + 1 := ⟨n - 1, by omega⟩
  have hfree : V.freeL [b] = true := by rw [freeL_cons, hb.free]; rfl
  have hlen := hb.len
  have hfst := hb.first
  rcases hb with ⟨rfl, rfl⟩ | ⟨c, rfl⟩
  · refine ⟨.nils, .inl ⟨rfl, rfl⟩, fun h => ?_⟩
    refine call_auto at23 rfl rfl (by decide) rfl (sx_wp ?_)
    simp +contextual -implicitDefEqProofs (maxSteps := 10000000) only [sx_seq, sxL_succ, lpQ_norm, lpQ_exit, lpQ_ret, loopQ_norm, loopQ_exit, loopQ_ret, sqQ_norm, sqQ_ret, sqQ_exit, sx_block, blkQ_norm, blkQ_exit, blkQ_ret, sx_cond, cdP_true, cdP_false, cdP_bool, sx_region, sx_draw, plainD, List.all_cons, List.all_nil, List.isEmpty_nil, List.isEmpty_cons, sxo_nil, sxo_cons, sxo_guard, gdS_bool, gdS_eff, gdS_tup, gdS_sel, gdS_seleff, sxK_def, wcall_some, effP_ret, effP_set, effP_none, effP_ite, wop_call, wop_cv, cvP_func, sx_ret, sx_exit, sx_skip, sx_clr, sx_fresh, stays, ↓selV_wt, ↓selV_wf, ↓impB_wt, ↓impB_wf, ↓selV_nor, ↓impB_nor, ↓selV_nt, ↓selV_nf, ↓impB_nt, ↓impB_nf, wantB_true, wantB_false, ↓selV_true, ↓selV_false, ↓selV_and, ↓impB_true, ↓impB_false, ↓impB_and, impB_triv, valOf_some, retH_some, ↓prim_pick, pickO_true, pickO_false, pickO_and, pickO_or, pickO_andr, pickO_orr, pickO_orrn, pickO_orn, pickO_bb, pickAnd_bool, pickOr_bool, ↓selV_nn, ↓impB_nn, Bool.and_assoc, Bool.or_assoc, doOp, ev_fr, ev_cst, put_none, put_fr, get, ins, del, dels, Nat.reduceLT, Nat.reduceEqDiff, ↓reduceIte, reduceCtorEq, ne_eq, not_false_eq_true, implies_true, framed_pureF, framed_fb, framed_N, framed_pure, wop_prim, prim, YLD, mkA, V.cells, List.getElem?_cons_zero, List.getElem?_cons_succ, List.set_cons_zero, List.set_cons_succ, Nat.zero_add, Nat.add_zero, Nat.reduceAdd, Nat.reduceSub, Nat.reduceMul, Nat.reduceLeDiff, Nat.not_lt_zero, List.map_cons, List.map_nil, List.cons_append, List.nil_append, loadA, cellsAt, nAg, packA, opt_bind_some, opt_map_some, opt_bind_none, opt_map_none, List.drop, List.take, List.head?, List.length_cons, List.length_nil, binA, unA, eqCells, eqCell, negB, fillA, sr_nil, sr_cons, sr_succ, sr_all, sr_len, storeA, Ob.with, indexedI, V.oneCell, intOf?, retQ_ret, retQ_norm, resA, resA1, fr_getD, packR, sealDepth, shut_bool, shut_int, Option.some.injEq, V.bool.injEq, V.int.injEq, Bool.not_true, Bool.not_false, true_and, and_true, and_self, Bool.and_true, Bool.and_false, Bool.true_and, Bool.false_and, Bool.or_true, Bool.or_false, Bool.true_or, Bool.false_or, Bool.false_eq_true, Int.reduceLT, Int.reduceLE, Int.reduceToNat, Int.reduceNeg, shut_plain, freeL_cons, freeL_nil, free_int, free_bool, free_agg, free_str, free_nils, free_tup, free_sl, true_implies, false_implies, Nat.sub_zero, Int.natCast_nonneg, Int.toNat_natCast, Nat.le_refl, not_true_eq_false, Int.reduceAdd, Int.reduceSub, Int.reduceMul, wrap64, false_and, and_false, cond_true, cond_false, Bool.cond_true_left, Bool.cond_false_right, Int.reduceBNe, Int.reduceBEq, decide_true, decide_false, Int.cast_ofNat_Int, Nat.mul_one, eq_self, Bool.true_eq_false, Bool.not_eq_true, Bool.not_eq_false, deads, List.replicate, argsF, am23, isNil]
  · cases l with
    | nil =>
      refine ⟨.sl [] 1 (some 0), .inr ⟨_, rfl⟩, fun h => ?_⟩
      refine call_auto at23 rfl rfl (by decide) hfree (sx_wp ?_)
      simp +contextual -implicitDefEqProofs (maxSteps := 10000000) only [sx_seq, sxL_succ, lpQ_norm, lpQ_exit, lpQ_ret, loopQ_norm, loopQ_exit, loopQ_ret, sqQ_norm, sqQ_ret, sqQ_exit, sx_block, blkQ_norm, blkQ_exit, blkQ_ret, sx_cond, cdP_true, cdP_false, cdP_bool, sx_region, sx_draw, plainD, List.all_cons, List.all_nil, List.isEmpty_nil, List.isEmpty_cons, sxo_nil, sxo_cons, sxo_guard, gdS_bool, gdS_eff, gdS_tup, gdS_sel, gdS_seleff, sxK_def, wcall_some, effP_ret, effP_set, effP_none, effP_ite, wop_call, wop_cv, cvP_func, sx_ret, sx_exit, sx_skip, sx_clr, sx_fresh, stays, ↓selV_wt, ↓selV_wf, ↓impB_wt, ↓impB_wf, ↓selV_nor, ↓impB_nor, ↓selV_nt, ↓selV_nf, ↓impB_nt, ↓impB_nf, wantB_true, wantB_false, ↓selV_true, ↓selV_false, ↓selV_and, ↓impB_true, ↓impB_false, ↓impB_and, impB_triv, valOf_some, retH_some, ↓prim_pick, pickO_true, pickO_false, pickO_and, pickO_or, pickO_andr, pickO_orr, pickO_orrn, pickO_orn, pickO_bb, pickAnd_bool, pickOr_bool, ↓selV_nn, ↓impB_nn, Bool.and_assoc, Bool.or_assoc, doOp, ev_fr, ev_cst, put_none, put_fr, get, ins, del, dels, Nat.reduceLT, Nat.reduceEqDiff, ↓reduceIte, reduceCtorEq, ne_eq, not_false_eq_true, implies_true, framed_pureF, framed_fb, framed_N, framed_pure, wop_prim, prim, YLD, mkA, V.cells, List.getElem?_cons_zero, List.getElem?_cons_succ, List.set_cons_zero, List.set_cons_succ, Nat.zero_add, Nat.add_zero, Nat.reduceAdd, Nat.reduceSub, Nat.reduceMul, Nat.reduceLeDiff, Nat.not_lt_zero, List.map_cons, List.map_nil, List.cons_append, List.nil_append, loadA, cellsAt, nAg, packA, opt_bind_some, opt_map_some, opt_bind_none, opt_map_none, List.drop, List.take, List.head?, List.length_cons, List.length_nil, binA, unA, eqCells, eqCell, negB, fillA, sr_nil, sr_cons, sr_succ, sr_all, sr_len, storeA, Ob.with, indexedI, V.oneCell, intOf?, retQ_ret, retQ_norm, resA, resA1, fr_getD, packR, sealDepth, shut_bool, shut_int, Option.some.injEq, V.bool.injEq, V.int.injEq, Bool.not_true, Bool.not_false, true_and, and_true, and_self, Bool.and_true, Bool.and_false, Bool.true_and, Bool.false_and, Bool.or_true, Bool.or_false, Bool.true_or, Bool.false_or, Bool.false_eq_true, Int.reduceLT, Int.reduceLE, Int.reduceToNat, Int.reduceNeg, shut_plain, freeL_cons, freeL_nil, free_int, free_bool, free_agg, free_str, free_nils, free_tup, free_sl, true_implies, false_implies, Nat.sub_zero, Int.natCast_nonneg, Int.toNat_natCast, Nat.le_refl, not_true_eq_false, Int.reduceAdd, Int.reduceSub, Int.reduceMul, wrap64, false_and, and_false, cond_true, cond_false, Bool.cond_true_left, Bool.cond_false_right, Int.reduceBNe, Int.reduceBEq, decide_true, decide_false, Int.cast_ofNat_Int, Nat.mul_one, eq_self, Bool.true_eq_false, Bool.not_eq_true, Bool.not_eq_false, deads, List.replicate, argsF, am23, isNil, appendA, lenA, firstA, List.range_zero]
      exact ⟨fun _ => rfl, fun h => by cases h⟩
    | cons x l =>
      refine ⟨.sl ((x :: l).map (V.int .u8)) 1 none, .inr ⟨_, rfl⟩, fun h => ?_⟩
      refine call_auto at23 rfl rfl (by decide) hfree (sx_wp ?_)
      have ho : ((x :: l).map (V.int .u8)).all V.oneCell = true := allOne_ints _ _
      have hz : ((x :: l).length = 0) = False := by simp
      have hm : (0 + (x :: l).length) * 1 ≤ maxBytes := by unfold maxBytes; omega
      have hm' : (x :: l).length ≤ maxBytes := by unfold maxBytes; omega
      have hsh : V.shut (fun o => [(⟨1, .arr []⟩ : Ob), ⟨1, .arr ((x :: l).map (V.int .u8))⟩][o]?) sealDepth (.view 1 1 0 (x :: l).length 1 none) = some (.sl ((x :: l).map (V.int .u8)) 1 none) := by
        refine shut_view (by decide) ?_ (by simp) ?_
        · intro e he
          obtain ⟨y, -, rfl⟩ := List.mem_map.1 he
          exact ⟨rfl, rfl, fun c hc => by cases hc with | head => exact ⟨rfl, rfl⟩ | tail _ h => cases h⟩
        · rw [flat_ints]
          simp [loadA, cellsAt]
          exact List.take_of_length_le (by simp)
      have hap : appendA (fun o => [(⟨1, .arr []⟩ : Ob), ⟨0, .dead⟩][o]?) 1 1 1 (.view 0 1 0 0 1 (some 0)) (.sl ((x :: l).map (V.int .u8)) 1 c) = some (.set 1 ⟨1, .arr ((x :: l).map (V.int .u8))⟩ (.view 1 1 0 (x :: l).length 1 none)) := by
        unfold appendA
        simp only [hlen, hfst, ho, ↓reduceIte, hz, cellsAt, List.getElem?_cons_zero]
        simp [mkA, hm', hm]
        unfold maxBytes
        simp at hl
        omega
      generalize (x :: l).map (V.int .u8) = L at *
      generalize (x :: l).length = k at *
      simp +contextual -implicitDefEqProofs (maxSteps := 10000000) only [sx_seq, sxL_succ, lpQ_norm, lpQ_exit, lpQ_ret, loopQ_norm, loopQ_exit, loopQ_ret, sqQ_norm, sqQ_ret, sqQ_exit, sx_block, blkQ_norm, blkQ_exit, blkQ_ret, sx_cond, cdP_true, cdP_false, cdP_bool, sx_region, sx_draw, plainD, List.all_cons, List.all_nil, List.isEmpty_nil, List.isEmpty_cons, sxo_nil, sxo_cons, sxo_guard, gdS_bool, gdS_eff, gdS_tup, gdS_sel, gdS_seleff, sxK_def, wcall_some, effP_ret, effP_set, effP_none, effP_ite, wop_call, wop_cv, cvP_func, sx_ret, sx_exit, sx_skip, sx_clr, sx_fresh, stays, ↓selV_wt, ↓selV_wf, ↓impB_wt, ↓impB_wf, ↓selV_nor, ↓impB_nor, ↓selV_nt, ↓selV_nf, ↓impB_nt, ↓impB_nf, wantB_true, wantB_false, ↓selV_true, ↓selV_false, ↓selV_and, ↓impB_true, ↓impB_false, ↓impB_and, impB_triv, valOf_some, retH_some, ↓prim_pick, pickO_true, pickO_false, pickO_and, pickO_or, pickO_andr, pickO_orr, pickO_orrn, pickO_orn, pickO_bb, pickAnd_bool, pickOr_bool, ↓selV_nn, ↓impB_nn, Bool.and_assoc, Bool.or_assoc, doOp, ev_fr, ev_cst, put_none, put_fr, get, ins, del, dels, Nat.reduceLT, Nat.reduceEqDiff, ↓reduceIte, reduceCtorEq, ne_eq, not_false_eq_true, implies_true, framed_pureF, framed_fb, framed_N, framed_pure, wop_prim, prim, YLD, mkA, V.cells, List.getElem?_cons_zero, List.getElem?_cons_succ, List.set_cons_zero, List.set_cons_succ, Nat.zero_add, Nat.add_zero, Nat.reduceAdd, Nat.reduceSub, Nat.reduceMul, Nat.reduceLeDiff, Nat.not_lt_zero, List.map_cons, List.map_nil, List.cons_append, List.nil_append, loadA, cellsAt, nAg, packA, opt_bind_some, opt_map_some, opt_bind_none, opt_map_none, List.drop, List.take, List.head?, List.length_cons, List.length_nil, binA, unA, eqCells, eqCell, negB, fillA, sr_nil, sr_cons, sr_succ, sr_all, sr_len, storeA, Ob.with, indexedI, V.oneCell, intOf?, retQ_ret, retQ_norm, resA, resA1, fr_getD, packR, sealDepth, shut_bool, shut_int, Option.some.injEq, V.bool.injEq, V.int.injEq, Bool.not_true, Bool.not_false, true_and, and_true, and_self, Bool.and_true, Bool.and_false, Bool.true_and, Bool.false_and, Bool.or_true, Bool.or_false, Bool.true_or, Bool.false_or, Bool.false_eq_true, Int.reduceLT, Int.reduceLE, Int.reduceToNat, Int.reduceNeg, shut_plain, freeL_cons, freeL_nil, free_int, free_bool, free_agg, free_str, free_nils, free_tup, free_sl, true_implies, false_implies, Nat.sub_zero, Int.natCast_nonneg, Int.toNat_natCast, Nat.le_refl, not_true_eq_false, Int.reduceAdd, Int.reduceSub, Int.reduceMul, wrap64, false_and, and_false, cond_true, cond_false, Bool.cond_true_left, Bool.cond_false_right, Int.reduceBNe, Int.reduceBEq, decide_true, decide_false, Int.cast_ofNat_Int, Nat.mul_one, eq_self, Bool.true_eq_false, Bool.not_eq_true, Bool.not_eq_false, deads, List.replicate, argsF, am23, isNil, List.range_zero, hap]
      exact hsh
end Go.Am.T


set_option linter.unusedVariables false
set_option linter.unusedSimpArgs false
set_option maxRecDepth 10000
namespace Go.Am.T
attribute [local congr] selV_congr impB_congr
structure Ses where
  me : Int
  other : Int
  view : Int
  first : Int
  told : Int
  got : Int
  owes : Bool
def Ses.cs (s : Ses) (W : V) : List V := [.bool true, .int .i64 s.me, .int .i64 s.other, .int .i64 s.view, W, .int .i64 s.first, .int .i64 s.told, .int .i64 s.got, .bool s.owes]
theorem objsL_app : ∀ (a b : List V), V.objsL (a ++ b) = V.objsL a ++ V.objsL b
  | [], _ => rfl
  | x :: a, b => by
    show V.objs x ++ V.objsL (a ++ b) = _
    rw [objsL_app a b, ← List.append_assoc]; rfl
theorem objsL_take : ∀ {L : List V} {k : Nat}, V.objsL L = [] → V.objsL (L.take k) = []
  | [], k, h => by simp [V.objsL]
  | x :: L, 0, h => rfl
  | x :: L, k + 1, h => by
    have h' : V.objs x ++ V.objsL L = [] := h
    rw [List.append_eq_nil_iff] at h'
    show V.objs x ++ V.objsL (L.take k) = []
    rw [h'.1, objsL_take h'.2]; rfl
def WRow (H : Heap) (W : V) (L : List V) (R : List Nat) : Prop :=
  (L = [] ∧ W = .nils ∧ R = []) ∨
  ∃ o ver x, R = [o] ∧ H[o]? = some ⟨ver, .arr (x ++ L)⟩ ∧ ((L = [] ∧ W = .vend o ver 1) ∨ (L ≠ [] ∧ W = .view o ver x.length L.length 1 none)) ∧ V.objsL x = []
theorem WRow.keep {H H' : Heap} {W : V} {L : List V} {R : List Nat} (h : WRow H W L R) (hk : ∀ o ∈ R, H'[o]? = H[o]?) : WRow H' W L R := by
  rcases h with h | ⟨o, ver, x, rfl, ho, h⟩
  · exact .inl h
  · exact .inr ⟨o, ver, x, rfl, by rw [hk o (by simp)]; exact ho, h⟩
theorem WRow.lt {H : Heap} {W : V} {L : List V} {R : List Nat} (h : WRow H W L R) : ∀ o ∈ R, o < H.length := by
  rcases h with ⟨-, -, rfl⟩ | ⟨o, ver, x, rfl, ho, h⟩
  · intro o ho; cases ho
  · intro o' h'
    obtain rfl : o' = o := by simpa using h'
    exact lt_of_get ho
theorem WRow.len {H : Heap} {W : V} {L : List V} {R : List Nat} (h : WRow H W L R) : lenA W = some L.length := by
  rcases h with ⟨rfl, rfl, -⟩ | ⟨o, ver, x, rfl, ho, ⟨rfl, rfl⟩ | ⟨-, rfl⟩, hx⟩ <;> rfl
theorem WRow.shape {H : Heap} {W : V} {L : List V} {R : List Nat} (h : WRow H W L R) : W.cells = [W] ∧ W.oneCell = true ∧ (∀ s, W ≠ .str s) ∧ (∀ s, W ≠ .agg s) ∧ (∀ s, W ≠ .tup s) ∧ W ≠ .junk := by
  rcases h with ⟨rfl, rfl, -⟩ | ⟨o, ver, x, rfl, ho, ⟨rfl, rfl⟩ | ⟨-, rfl⟩, hx⟩ <;> exact ⟨rfl, rfl, fun _ => V.noConfusion, fun _ => V.noConfusion, fun _ => V.noConfusion, V.noConfusion⟩
theorem WRow.objs {H : Heap} {W : V} {L : List V} {R : List Nat} (h : WRow H W L R) : W.objs = R := by
  rcases h with ⟨rfl, rfl, rfl⟩ | ⟨o, ver, x, rfl, ho, ⟨rfl, rfl⟩ | ⟨-, rfl⟩, hx⟩ <;> rfl
theorem WRow.append {H : Heap} {W : V} {L : List V} {R : List Nat} {o0 : Nat} {x0 : Ob} {b : V} (h : WRow H W L R) (h0 : H[o0]? = some x0) (hb : b.cells = [b]) (h1 : b.oneCell = true) (hL : L.length ≤ 1000) :
    ∃ o1 y W', appendA (fun o => H[o]?) o0 1 24 W (.sl [b] 1 (some 1)) = some (.set o1 y W') ∧ WRow (H.set o1 y) W' (L ++ [b]) [o1] ∧ (o1 = o0 ∨ o1 ∈ R) ∧ o1 < H.length := by
  have hl1 : lenA (.sl [b] 1 (some 1)) = some 1 := rfl
  have hf1 : firstA (fun o => H[o]?) 1 1 (.sl [b] 1 (some 1)) = some [b] := by rw [firstA_sl1, hb]
  have ha1 : ([b] : List V).all V.oneCell = true := by simp [h1]
  rcases h with ⟨rfl, rfl, rfl⟩ | ⟨o, ver, x, rfl, ho, ⟨rfl, rfl⟩ | ⟨hne, rfl⟩, hx⟩
  · refine ⟨o0, ⟨x0.ver + 1, .arr [b]⟩, .view o0 (x0.ver + 1) 0 1 1 none, ?_, .inr ⟨o0, x0.ver + 1, [], rfl, ?_, .inr ⟨by simp, rfl⟩, rfl⟩, .inl rfl, lt_of_get h0⟩
    · unfold appendA
      simp [hl1, hf1, ha1, mkA, h0, maxBytes]
    · rw [List.getElem?_set_self (lt_of_get h0)]; rfl
  · refine ⟨o, ⟨ver + 1, .arr [b]⟩, .view o (ver + 1) 0 1 1 none, ?_, .inr ⟨o, ver + 1, [], rfl, ?_, .inr ⟨by simp, rfl⟩, rfl⟩, .inr (by simp), lt_of_get ho⟩
    · unfold appendA
      simp [hl1, hf1, ha1, cellsAt, ho, maxBytes]
    · rw [List.getElem?_set_self (lt_of_get ho)]; rfl
  · refine ⟨o, ⟨ver + 1, .arr (L ++ [b])⟩, .view o (ver + 1) 0 (L.length + 1) 1 none, ?_, .inr ⟨o, ver + 1, [], rfl, ?_, .inr ⟨by simp, by simp⟩, rfl⟩, .inr (by simp), lt_of_get ho⟩
    · have : (L.length + 1) * 24 ≤ maxBytes := by unfold maxBytes; omega
      unfold appendA
      simp [hl1, hf1, ha1, cellsAt, ho, this]
    · rw [List.getElem?_set_self (lt_of_get ho)]; rfl
theorem WRow.drop {H : Heap} {W : V} {L : List V} {R : List Nat} (h : WRow H W L R) (hLo : V.objsL L = []) {k : Nat} (hk : k ≤ L.length) : ∃ W', sliceA (fun o => H[o]?) 1 W (some (.int .i64 k)) none none = some W' ∧ WRow H W' (L.drop k) R := by
  rcases h with ⟨rfl, rfl, rfl⟩ | ⟨o, ver, x, rfl, ho, ⟨rfl, rfl⟩ | ⟨hne, rfl⟩, hx⟩
  · have : k = 0 := by simpa using hk
    subst this
    exact ⟨.nils, rfl, .inl ⟨rfl, rfl, rfl⟩⟩
  · have : k = 0 := by simpa using hk
    subst this
    exact ⟨.vend o ver 1, rfl, .inr ⟨o, ver, x, rfl, ho, .inl ⟨rfl, rfl⟩, hx⟩⟩
  · have hb : boundsA L.length ((x ++ L).length - x.length) (some (.int .i64 (k : Nat))) none none = some (k, L.length, L.length) := by
      simp [boundsA, intOf?, hk]
    by_cases h0 : k = 0
    · subst h0
      refine ⟨.view o ver x.length L.length 1 none, ?_, .inr ⟨o, ver, x, rfl, ho, .inr ⟨hne, rfl⟩, hx⟩⟩
      simp only [sliceA, ↓reduceIte, cellsAt, ho, Nat.div_one, hb, Option.bind_some]
    · by_cases hlt : k < L.length
      · refine ⟨.view o ver (x.length + k) (L.length - k) 1 none, ?_, .inr ⟨o, ver, x ++ L.take k, rfl, by rw [List.append_assoc, List.take_append_drop]; exact ho, .inr ⟨?_, ?_⟩, ?_⟩⟩
        · simp only [sliceA, ↓reduceIte, cellsAt, ho, Nat.div_one, hb, Option.bind_some, h0, hlt, Nat.mul_one]
        · simp; omega
        · simp; omega
        · rw [objsL_app, hx, objsL_take hLo]; rfl
      · have hk' : k = L.length := by omega
        subst hk'
        refine ⟨.vend o ver 1, ?_, .inr ⟨o, ver, x ++ L, rfl, by simpa using ho, .inl ⟨by simp, rfl⟩, by rw [objsL_app, hx, hLo]; rfl⟩⟩
        simp only [sliceA, ↓reduceIte, cellsAt, ho, Nat.div_one, hb, Option.bind_some, h0, hlt]
theorem WRow.at_ {H : Heap} {W : V} {L : List V} {R : List Nat} (h : WRow H W L R) {i : Nat} {b : V} (hi : L[i]? = some b) :
    ∃ o ver off, iaddrSA 1 W (.int .i64 i) = some (.ret (.ptr o ver off)) ∧ loadA (fun o => H[o]?) 1 (.ptr o ver off) = some [b] ∧ R = [o] := by
  have hlt := (List.getElem?_eq_some_iff.1 hi).1
  rcases h with ⟨rfl, rfl, rfl⟩ | ⟨o, ver, x, rfl, ho, ⟨rfl, rfl⟩ | ⟨hne, rfl⟩, hx⟩
  · simp at hi
  · simp at hi
  · refine ⟨o, ver, x.length + i * 1, ?_, ?_, rfl⟩
    · simp [iaddrSA, indexedI, hlt]
    · have h1 : x.length + i * 1 + 1 ≤ (x ++ L).length := by simp; omega
      have h2 : List.take 1 (List.drop (x.length + i * 1) (x ++ L)) = [b] := by
        rw [Nat.mul_one, List.drop_append, List.drop_eq_nil_of_le (by omega), List.nil_append, show x.length + i - x.length = i by omega]
        rw [List.drop_eq_getElem_cons hlt]
        have := (List.getElem?_eq_some_iff.1 hi).2
        simp [this]
      simp only [loadA, cellsAt, ho, ↓reduceIte, h1, h2]
def Bods (L : List V) : Prop := ∀ b ∈ L, ∃ l, By l b ∧ l.length ≤ 256
theorem By.elem {l : List Int} {b : V} (h : By l b) : ElemOk' 1 b := by
  refine ⟨by rw [h.cells]; rfl, by rw [h.cells]; rfl, fun c hc => ?_⟩
  rw [h.cells] at hc
  obtain rfl : c = b := by simpa using hc
  exact ⟨h.free, h.one⟩
theorem Bods.objs : ∀ {L : List V}, Bods L → V.objsL L = []
  | [], _ => rfl
  | b :: L, h => by
    obtain ⟨l, hl, -⟩ := h b (by simp)
    show V.objs b ++ V.objsL L = []
    rw [hl.objs, Bods.objs (fun c hc => h c (by simp [hc]))]; rfl
def sealW (W : V) (L : List V) : V := match W with | .nils => .nils | .vend .. => .sl [] 1 none | _ => .sl L 1 none
theorem flat_self {L : List V} (hL : ∀ b ∈ L, b.cells = [b]) : L.flatMap V.cells = L := by
  induction L with
  | nil => rfl
  | cons b L ih => rw [List.flatMap_cons, hL b (by simp), ih (fun c hc => hL c (by simp [hc]))]; rfl
theorem WRow.shut {H : Heap} {W : V} {L : List V} {R : List Nat} (h : WRow H W L R) (hB : Bods L) : V.shut (fun o => H[o]?) 63 W = some (sealW W L) ∧ (sealW W L).free = true ∧ lenA (sealW W L) = some L.length ∧ (∀ s, sealW W L ≠ .str s) ∧ (sealW W L).cells = [sealW W L] := by
  have hf : V.freeL L = true := by
    rw [freeL_of_mem]
    intro c hc
    obtain ⟨l, hl, -⟩ := hB c hc
    exact hl.free
  rcases h with ⟨rfl, rfl, -⟩ | ⟨o, ver, x, rfl, ho, ⟨rfl, rfl⟩ | ⟨hne, rfl⟩, hx⟩
  · exact ⟨rfl, rfl, rfl, fun _ => V.noConfusion, rfl⟩
  · refine ⟨?_, rfl, rfl, fun _ => V.noConfusion, rfl⟩
    have e : V.shut (fun o => H[o]?) 63 (.vend o ver 1) = match cellsAt (fun o => H[o]?) o ver with | some _ => some (.sl [] 1 none) | none => none := rfl
    rw [e]
    simp [cellsAt, ho, sealW]
  · refine ⟨?_, hf, rfl, fun _ => V.noConfusion, rfl⟩
    refine shut_view (by decide) (fun e he => ?_) rfl ?_
    · obtain ⟨l, hl, -⟩ := hB e he
      exact hl.elem
    · rw [flat_self (fun b hb => by obtain ⟨l, hl, -⟩ := hB b hb; exact hl.cells)]
      simp only [loadA, cellsAt, ho, ↓reduceIte]
      rw [if_pos (by simp), List.drop_left, List.take_of_length_le (by simp)]
structure SAt (H : Heap) (a : Nat) (s : Ses) (L : List V) (W : V) (R : List Nat) : Prop where
  ob : H[a]? = some ⟨1, .var (s.cs W)⟩
  row : WRow H W L R
  bods : Bods L
  apart : a ∉ R
theorem SAt.shut {H : Heap} {a : Nat} {s : Ses} {L : List V} {W : V} {R : List Nat} (h : SAt H a s L W R) (off : Nat) : V.shut (fun o => H[o]?) sealDepth (.ptr a 1 off) = some (.iptr (s.cs (sealW W L)) off) := by
  have e : V.shut (fun o => H[o]?) sealDepth (.ptr a 1 off) = match cellsAt (fun o => H[o]?) a 1 with
      | some all => (all.mapM (V.shut (fun o => H[o]?) 63)).map fun cs => .iptr cs off
      | none => none := rfl
  rw [e]
  simp only [cellsAt, h.ob, ↓reduceIte]
  have hp : ∀ v : V, v.free = true → V.shut (fun o => H[o]?) 63 v = some v := fun v hv => shut_plain (d := 62) hv
  simp only [Ses.cs, List.mapM_cons, List.mapM_nil, hp (.bool true) rfl, hp (.int .i64 _) rfl, hp (.bool _) rfl, (h.row.shut h.bods).1, Option.bind_eq_bind, Option.bind_some, Option.pure_def, Option.map_some]
theorem cs_free {s : Ses} {W : V} (h : W.free = true) : V.freeL (s.cs W) = true := by
  simp only [Ses.cs, freeL_cons, freeL_nil, free_int, free_bool, h, Bool.and_self]
theorem shut_i {get : Nat → Option Ob} {off : Nat} {s : Ses} {W : V} (hW : W.free = true) : V.shut get sealDepth (.iptr (s.cs W) off) = some (.iptr (s.cs W) off) :=
  shut_plain (d := 63) (cs_free hW)
theorem is_i {N n : Nat} (hn : 1 ≤ n) {s : Ses} {W : V} (hW : W.free = true) (h : Heap) : callA am N n 22 [.iptr (s.cs W) 0] h = some (.bool true, h) := by
  obtain ⟨n, rfl⟩ : ∃ m, n = m + 1 := ⟨n - 1, by omega⟩
  refine call_look at22 rfl rfl (by decide) (args' := [.iptr (s.cs W) 0]) (by rw [List.mapM_cons, shut_i hW]; rfl) (sx_wp ?_)
  unfold Ses.cs
  simp +contextual -implicitDefEqProofs (maxSteps := 10000000) only [sx_seq, sxL_succ, lpQ_norm, lpQ_exit, lpQ_ret, loopQ_norm, loopQ_exit, loopQ_ret, sqQ_norm, sqQ_ret, sqQ_exit, sx_block, blkQ_norm, blkQ_exit, blkQ_ret, sx_cond, cdP_true, cdP_false, cdP_bool, sx_region, sx_draw, plainD, List.all_cons, List.all_nil, List.isEmpty_nil, List.isEmpty_cons, sxo_nil, sxo_cons, sxo_guard, gdS_bool, gdS_eff, gdS_tup, gdS_sel, gdS_seleff, sxK_def, wcall_some, effP_ret, effP_set, effP_none, effP_ite, wop_call, wop_cv, cvP_func, sx_ret, sx_exit, sx_skip, sx_clr, sx_fresh, stays, ↓selV_wt, ↓selV_wf, ↓impB_wt, ↓impB_wf, ↓selV_nor, ↓impB_nor, ↓selV_nt, ↓selV_nf, ↓impB_nt, ↓impB_nf, wantB_true, wantB_false, ↓selV_true, ↓selV_false, ↓selV_and, ↓impB_true, ↓impB_false, ↓impB_and, impB_triv, valOf_some, retH_some, ↓prim_pick, pickO_true, pickO_false, pickO_and, pickO_or, pickO_andr, pickO_orr, pickO_orrn, pickO_orn, pickO_bb, pickAnd_bool, pickOr_bool, ↓selV_nn, ↓impB_nn, Bool.and_assoc, Bool.or_assoc, doOp, ev_fr, ev_cst, put_none, put_fr, get, ins, del, dels, Nat.reduceLT, Nat.reduceEqDiff, ↓reduceIte, reduceCtorEq, ne_eq, not_false_eq_true, implies_true, framed_pureF, framed_fb, framed_N, framed_pure, wop_prim, prim, YLD, mkA, V.cells, List.getElem?_cons_zero, List.getElem?_cons_succ, List.set_cons_zero, List.set_cons_succ, Nat.zero_add, Nat.add_zero, Nat.reduceAdd, Nat.reduceSub, Nat.reduceMul, Nat.reduceLeDiff, Nat.not_lt_zero, List.map_cons, List.map_nil, List.cons_append, List.nil_append, loadA, cellsAt, nAg, packA, opt_bind_some, opt_map_some, opt_bind_none, opt_map_none, List.drop, List.take, List.head?, List.length_cons, List.length_nil, binA, unA, eqCells, eqCell, negB, fillA, sr_nil, sr_cons, sr_succ, sr_all, sr_len, storeA, Ob.with, indexedI, V.oneCell, intOf?, retQ_ret, retQ_norm, resA, resA1, fr_getD, packR, sealDepth, shut_bool, shut_int, Option.some.injEq, V.bool.injEq, V.int.injEq, Bool.not_true, Bool.not_false, true_and, and_true, and_self, Bool.and_true, Bool.and_false, Bool.true_and, Bool.false_and, Bool.or_true, Bool.or_false, Bool.true_or, Bool.false_or, Bool.false_eq_true, Int.reduceLT, Int.reduceLE, Int.reduceToNat, Int.reduceNeg, shut_plain, freeL_cons, freeL_nil, free_int, free_bool, free_agg, free_str, free_nils, free_tup, free_sl, true_implies, false_implies, Nat.sub_zero, Int.natCast_nonneg, Int.toNat_natCast, Nat.le_refl, not_true_eq_false, Int.reduceAdd, Int.reduceSub, Int.reduceMul, wrap64, false_and, and_false, cond_true, cond_false, Bool.cond_true_left, Bool.cond_false_right, Int.reduceBNe, Int.reduceBEq, decide_true, decide_false, Int.cast_ofNat_Int, Nat.mul_one, eq_self, Bool.true_eq_false, Bool.not_eq_true, Bool.not_eq_false, deads, List.replicate, argsF, am22, isNil, plain_bool]
theorem is_spec {N n : Nat} (hn : 1 ≤ n) {a : Nat} {s : Ses} {W : V} {L : List V} {R : List Nat} {h : Heap} (ha : SAt h a s L W R) : callA am N n 22 [.ptr a 1 0] h = some (.bool true, h) := by
  obtain ⟨n, rfl⟩ : ∃ m, n = m + 1 := ⟨n - 1, by omega⟩
  refine call_look at22 rfl rfl (by decide) (args' := [.iptr (s.cs (sealW W L)) 0]) (by rw [List.mapM_cons, ha.shut]; rfl) (sx_wp ?_)
  unfold Ses.cs
  simp +contextual -implicitDefEqProofs (maxSteps := 10000000) only [sx_seq, sxL_succ, lpQ_norm, lpQ_exit, lpQ_ret, loopQ_norm, loopQ_exit, loopQ_ret, sqQ_norm, sqQ_ret, sqQ_exit, sx_block, blkQ_norm, blkQ_exit, blkQ_ret, sx_cond, cdP_true, cdP_false, cdP_bool, sx_region, sx_draw, plainD, List.all_cons, List.all_nil, List.isEmpty_nil, List.isEmpty_cons, sxo_nil, sxo_cons, sxo_guard, gdS_bool, gdS_eff, gdS_tup, gdS_sel, gdS_seleff, sxK_def, wcall_some, effP_ret, effP_set, effP_none, effP_ite, wop_call, wop_cv, cvP_func, sx_ret, sx_exit, sx_skip, sx_clr, sx_fresh, stays, ↓selV_wt, ↓selV_wf, ↓impB_wt, ↓impB_wf, ↓selV_nor, ↓impB_nor, ↓selV_nt, ↓selV_nf, ↓impB_nt, ↓impB_nf, wantB_true, wantB_false, ↓selV_true, ↓selV_false, ↓selV_and, ↓impB_true, ↓impB_false, ↓impB_and, impB_triv, valOf_some, retH_some, ↓prim_pick, pickO_true, pickO_false, pickO_and, pickO_or, pickO_andr, pickO_orr, pickO_orrn, pickO_orn, pickO_bb, pickAnd_bool, pickOr_bool, ↓selV_nn, ↓impB_nn, Bool.and_assoc, Bool.or_assoc, doOp, ev_fr, ev_cst, put_none, put_fr, get, ins, del, dels, Nat.reduceLT, Nat.reduceEqDiff, ↓reduceIte, reduceCtorEq, ne_eq, not_false_eq_true, implies_true, framed_pureF, framed_fb, framed_N, framed_pure, wop_prim, prim, YLD, mkA, V.cells, List.getElem?_cons_zero, List.getElem?_cons_succ, List.set_cons_zero, List.set_cons_succ, Nat.zero_add, Nat.add_zero, Nat.reduceAdd, Nat.reduceSub, Nat.reduceMul, Nat.reduceLeDiff, Nat.not_lt_zero, List.map_cons, List.map_nil, List.cons_append, List.nil_append, loadA, cellsAt, nAg, packA, opt_bind_some, opt_map_some, opt_bind_none, opt_map_none, List.drop, List.take, List.head?, List.length_cons, List.length_nil, binA, unA, eqCells, eqCell, negB, fillA, sr_nil, sr_cons, sr_succ, sr_all, sr_len, storeA, Ob.with, indexedI, V.oneCell, intOf?, retQ_ret, retQ_norm, resA, resA1, fr_getD, packR, sealDepth, shut_bool, shut_int, Option.some.injEq, V.bool.injEq, V.int.injEq, Bool.not_true, Bool.not_false, true_and, and_true, and_self, Bool.and_true, Bool.and_false, Bool.true_and, Bool.false_and, Bool.or_true, Bool.or_false, Bool.true_or, Bool.false_or, Bool.false_eq_true, Int.reduceLT, Int.reduceLE, Int.reduceToNat, Int.reduceNeg, shut_plain, freeL_cons, freeL_nil, free_int, free_bool, free_agg, free_str, free_nils, free_tup, free_sl, true_implies, false_implies, Nat.sub_zero, Int.natCast_nonneg, Int.toNat_natCast, Nat.le_refl, not_true_eq_false, Int.reduceAdd, Int.reduceSub, Int.reduceMul, wrap64, false_and, and_false, cond_true, cond_false, Bool.cond_true_left, Bool.cond_false_right, Int.reduceBNe, Int.reduceBEq, decide_true, decide_false, Int.cast_ofNat_Int, Nat.mul_one, eq_self, Bool.true_eq_false, Bool.not_eq_true, Bool.not_eq_false, deads, List.replicate, argsF, am22, isNil, plain_bool]
theorem waits_spec {N n : Nat} (hn : 2 ≤ n) {a : Nat} {s : Ses} {W : V} {L : List V} {R : List Nat} {h : Heap} (ha : SAt h a s L W R) : callA am N n 15 [.ptr a 1 0] h = some (.int .i64 L.length, h) := by
  obtain ⟨n, rfl⟩ : ∃ m, n = m + 1 := ⟨n - 1, by omega⟩
  have c22 := fun h => @is_i N n (by omega) s (sealW W L) (ha.row.shut ha.bods).2.1 h
  obtain ⟨-, -, q1, q2, q3⟩ := ha.row.shut ha.bods
  refine call_look at15 rfl rfl (by decide) (args' := [.iptr (s.cs (sealW W L)) 0]) (by rw [List.mapM_cons, ha.shut]; rfl) (sx_wp ?_)
  unfold Ses.cs at c22 ⊢
  simp +contextual -implicitDefEqProofs (maxSteps := 10000000) only [sx_seq, sxL_succ, lpQ_norm, lpQ_exit, lpQ_ret, loopQ_norm, loopQ_exit, loopQ_ret, sqQ_norm, sqQ_ret, sqQ_exit, sx_block, blkQ_norm, blkQ_exit, blkQ_ret, sx_cond, cdP_true, cdP_false, cdP_bool, sx_region, sx_draw, plainD, List.all_cons, List.all_nil, List.isEmpty_nil, List.isEmpty_cons, sxo_nil, sxo_cons, sxo_guard, gdS_bool, gdS_eff, gdS_tup, gdS_sel, gdS_seleff, sxK_def, wcall_some, effP_ret, effP_set, effP_none, effP_ite, wop_call, wop_cv, cvP_func, sx_ret, sx_exit, sx_skip, sx_clr, sx_fresh, stays, ↓selV_wt, ↓selV_wf, ↓impB_wt, ↓impB_wf, ↓selV_nor, ↓impB_nor, ↓selV_nt, ↓selV_nf, ↓impB_nt, ↓impB_nf, wantB_true, wantB_false, ↓selV_true, ↓selV_false, ↓selV_and, ↓impB_true, ↓impB_false, ↓impB_and, impB_triv, valOf_some, retH_some, ↓prim_pick, pickO_true, pickO_false, pickO_and, pickO_or, pickO_andr, pickO_orr, pickO_orrn, pickO_orn, pickO_bb, pickAnd_bool, pickOr_bool, ↓selV_nn, ↓impB_nn, Bool.and_assoc, Bool.or_assoc, doOp, ev_fr, ev_cst, put_none, put_fr, get, ins, del, dels, Nat.reduceLT, Nat.reduceEqDiff, ↓reduceIte, reduceCtorEq, ne_eq, not_false_eq_true, implies_true, framed_pureF, framed_fb, framed_N, framed_pure, wop_prim, prim, YLD, mkA, V.cells, List.getElem?_cons_zero, List.getElem?_cons_succ, List.set_cons_zero, List.set_cons_succ, Nat.zero_add, Nat.add_zero, Nat.reduceAdd, Nat.reduceSub, Nat.reduceMul, Nat.reduceLeDiff, Nat.not_lt_zero, List.map_cons, List.map_nil, List.cons_append, List.nil_append, loadA, cellsAt, nAg, packA, opt_bind_some, opt_map_some, opt_bind_none, opt_map_none, List.drop, List.take, List.head?, List.length_cons, List.length_nil, binA, unA, eqCells, eqCell, negB, fillA, sr_nil, sr_cons, sr_succ, sr_all, sr_len, storeA, Ob.with, indexedI, V.oneCell, intOf?, retQ_ret, retQ_norm, resA, resA1, fr_getD, packR, sealDepth, shut_bool, shut_int, Option.some.injEq, V.bool.injEq, V.int.injEq, Bool.not_true, Bool.not_false, true_and, and_true, and_self, Bool.and_true, Bool.and_false, Bool.true_and, Bool.false_and, Bool.or_true, Bool.or_false, Bool.true_or, Bool.false_or, Bool.false_eq_true, Int.reduceLT, Int.reduceLE, Int.reduceToNat, Int.reduceNeg, shut_plain, freeL_cons, freeL_nil, free_int, free_bool, free_agg, free_str, free_nils, free_tup, free_sl, true_implies, false_implies, Nat.sub_zero, Int.natCast_nonneg, Int.toNat_natCast, Nat.le_refl, not_true_eq_false, Int.reduceAdd, Int.reduceSub, Int.reduceMul, wrap64, false_and, and_false, cond_true, cond_false, Bool.cond_true_left, Bool.cond_false_right, Int.reduceBNe, Int.reduceBEq, decide_true, decide_false, Int.cast_ofNat_Int, Nat.mul_one, eq_self, Bool.true_eq_false, Bool.not_eq_true, Bool.not_eq_false, deads, List.replicate, argsF, am15, c22, isNil, q1, plain_int]
def nodeB (n : Int) : Bool := decide (n ≥ 0) && decide (n < 8)
theorem node_spec {N n : Nat} (hn : 1 ≤ n) (x : Int) (h : Heap) : callA am N n 21 [.int .i64 x] h = some (.bool (nodeB x), h) := by
  obtain ⟨n, rfl⟩ : ∃ m, n = m + 1 := ⟨n - 1, by omega⟩
  refine call_pure at21 rfl rfl (by decide) rfl (sx_wp ?_)
  unfold nodeB
  simp +contextual -implicitDefEqProofs (maxSteps := 10000000) only [sx_seq, sxL_succ, lpQ_norm, lpQ_exit, lpQ_ret, loopQ_norm, loopQ_exit, loopQ_ret, sqQ_norm, sqQ_ret, sqQ_exit, sx_block, blkQ_norm, blkQ_exit, blkQ_ret, sx_cond, cdP_true, cdP_false, cdP_bool, sx_region, sx_draw, plainD, List.all_cons, List.all_nil, List.isEmpty_nil, List.isEmpty_cons, sxo_nil, sxo_cons, sxo_guard, gdS_bool, gdS_eff, gdS_tup, gdS_sel, gdS_seleff, sxK_def, wcall_some, effP_ret, effP_set, effP_none, effP_ite, wop_call, wop_cv, cvP_func, sx_ret, sx_exit, sx_skip, sx_clr, sx_fresh, stays, ↓selV_wt, ↓selV_wf, ↓impB_wt, ↓impB_wf, ↓selV_nor, ↓impB_nor, ↓selV_nt, ↓selV_nf, ↓impB_nt, ↓impB_nf, wantB_true, wantB_false, ↓selV_true, ↓selV_false, ↓selV_and, ↓impB_true, ↓impB_false, ↓impB_and, impB_triv, valOf_some, retH_some, ↓prim_pick, pickO_true, pickO_false, pickO_and, pickO_or, pickO_andr, pickO_orr, pickO_orrn, pickO_orn, pickO_bb, pickAnd_bool, pickOr_bool, ↓selV_nn, ↓impB_nn, Bool.and_assoc, Bool.or_assoc, doOp, ev_fr, ev_cst, put_none, put_fr, get, ins, del, dels, Nat.reduceLT, Nat.reduceEqDiff, ↓reduceIte, reduceCtorEq, ne_eq, not_false_eq_true, implies_true, framed_pureF, framed_fb, framed_N, framed_pure, wop_prim, prim, YLD, mkA, V.cells, List.getElem?_cons_zero, List.getElem?_cons_succ, List.set_cons_zero, List.set_cons_succ, Nat.zero_add, Nat.add_zero, Nat.reduceAdd, Nat.reduceSub, Nat.reduceMul, Nat.reduceLeDiff, Nat.not_lt_zero, List.map_cons, List.map_nil, List.cons_append, List.nil_append, loadA, cellsAt, nAg, packA, opt_bind_some, opt_map_some, opt_bind_none, opt_map_none, List.drop, List.take, List.head?, List.length_cons, List.length_nil, binA, unA, eqCells, eqCell, negB, fillA, sr_nil, sr_cons, sr_succ, sr_all, sr_len, storeA, Ob.with, indexedI, V.oneCell, intOf?, retQ_ret, retQ_norm, resA, resA1, fr_getD, packR, sealDepth, shut_bool, shut_int, Option.some.injEq, V.bool.injEq, V.int.injEq, Bool.not_true, Bool.not_false, true_and, and_true, and_self, Bool.and_true, Bool.and_false, Bool.true_and, Bool.false_and, Bool.or_true, Bool.or_false, Bool.true_or, Bool.false_or, Bool.false_eq_true, Int.reduceLT, Int.reduceLE, Int.reduceToNat, Int.reduceNeg, shut_plain, freeL_cons, freeL_nil, free_int, free_bool, free_agg, free_str, free_nils, free_tup, free_sl, true_implies, false_implies, Nat.sub_zero, Int.natCast_nonneg, Int.toNat_natCast, Nat.le_refl, not_true_eq_false, Int.reduceAdd, Int.reduceSub, Int.reduceMul, wrap64, false_and, and_false, cond_true, cond_false, Bool.cond_true_left, Bool.cond_false_right, Int.reduceBNe, Int.reduceBEq, decide_true, decide_false, Int.cast_ofNat_Int, Nat.mul_one, eq_self, Bool.true_eq_false, Bool.not_eq_true, Bool.not_eq_false, deads, List.replicate, argsF, am21]
def mayS (me other view : Int) : Bool := nodeB me && (nodeB other && (!(me == other) && (decide (0 ≤ view) && decide (view ≤ 4611686018427387904))))
def newS (me other view : Int) : Ses := ⟨me, other, view, 1, 0, 0, false⟩
theorem new_ok {N n : Nat} (hn : 2 ≤ n) {me other view : Int} (hm : mayS me other view = true) (h : Heap) : callA am N n 7 [.int .i64 me, .int .i64 other, .int .i64 view] h = some (.tup [.ptr h.length 1 0, .int .i64 0], h ++ [⟨1, .var ((newS me other view).cs .nils)⟩]) := by
  obtain ⟨n, rfl⟩ : ∃ m, n = m + 1 := ⟨n - 1, by omega⟩
  have c21 := @node_spec N n (by omega)
  simp only [mayS, Bool.and_eq_true, Bool.not_eq_true', decide_eq_true_eq] at hm
  obtain ⟨m1, m2, m3, m4, m5⟩ := hm
  have g1 : decide (view < 0) = false := decide_eq_false (by omega)
  have g2 : decide (view > 4611686018427387904) = false := decide_eq_false (by omega)
  refine call_keep_eq at7 rfl rfl (by decide) (sx_wp ?_)
  simp +contextual -implicitDefEqProofs (maxSteps := 10000000) only [sx_seq, sxL_succ, lpQ_norm, lpQ_exit, lpQ_ret, loopQ_norm, loopQ_exit, loopQ_ret, sqQ_norm, sqQ_ret, sqQ_exit, sx_block, blkQ_norm, blkQ_exit, blkQ_ret, sx_cond, cdP_true, cdP_false, cdP_bool, sx_region, sx_draw, plainD, List.all_cons, List.all_nil, List.isEmpty_nil, List.isEmpty_cons, sxo_nil, sxo_cons, sxo_guard, gdS_bool, gdS_eff, gdS_tup, gdS_sel, gdS_seleff, sxK_def, wcall_some, effP_ret, effP_set, effP_none, effP_ite, wop_call, wop_cv, cvP_func, sx_ret, sx_exit, sx_skip, sx_clr, sx_fresh, stays, ↓selV_wt, ↓selV_wf, ↓impB_wt, ↓impB_wf, ↓selV_nor, ↓impB_nor, ↓selV_nt, ↓selV_nf, ↓impB_nt, ↓impB_nf, wantB_true, wantB_false, ↓selV_true, ↓selV_false, ↓selV_and, ↓impB_true, ↓impB_false, ↓impB_and, impB_triv, valOf_some, retH_some, ↓prim_pick, pickO_true, pickO_false, pickO_and, pickO_or, pickO_andr, pickO_orr, pickO_orrn, pickO_orn, pickO_bb, pickAnd_bool, pickOr_bool, ↓selV_nn, ↓impB_nn, Bool.and_assoc, Bool.or_assoc, doOp, ev_fr, ev_cst, put_none, put_fr, get, ins, del, dels, Nat.reduceLT, Nat.reduceEqDiff, ↓reduceIte, reduceCtorEq, ne_eq, not_false_eq_true, implies_true, framed_pureF, framed_fb, framed_N, framed_pure, wop_prim, prim, YLD, mkA, V.cells, List.getElem?_cons_zero, List.getElem?_cons_succ, List.set_cons_zero, List.set_cons_succ, Nat.zero_add, Nat.add_zero, Nat.reduceAdd, Nat.reduceSub, Nat.reduceMul, Nat.reduceLeDiff, Nat.not_lt_zero, List.map_cons, List.map_nil, List.cons_append, List.nil_append, loadA, cellsAt, nAg, packA, opt_bind_some, opt_map_some, opt_bind_none, opt_map_none, List.drop, List.take, List.head?, List.length_cons, List.length_nil, binA, unA, eqCells, eqCell, negB, fillA, sr_nil, sr_cons, sr_succ, sr_all, sr_len, storeA, Ob.with, indexedI, V.oneCell, intOf?, retQ_ret, retQ_norm, resA, resA1, fr_getD, packR, sealDepth, shut_bool, shut_int, Option.some.injEq, V.bool.injEq, V.int.injEq, Bool.not_true, Bool.not_false, true_and, and_true, and_self, Bool.and_true, Bool.and_false, Bool.true_and, Bool.false_and, Bool.or_true, Bool.or_false, Bool.true_or, Bool.false_or, Bool.false_eq_true, Int.reduceLT, Int.reduceLE, Int.reduceToNat, Int.reduceNeg, shut_plain, freeL_cons, freeL_nil, free_int, free_bool, free_agg, free_str, free_nils, free_tup, free_sl, true_implies, false_implies, Nat.sub_zero, Int.natCast_nonneg, Int.toNat_natCast, Nat.le_refl, not_true_eq_false, Int.reduceAdd, Int.reduceSub, Int.reduceMul, wrap64, false_and, and_false, cond_true, cond_false, Bool.cond_true_left, Bool.cond_false_right, Int.reduceBNe, Int.reduceBEq, decide_true, decide_false, Int.cast_ofNat_Int, Nat.mul_one, eq_self, Bool.true_eq_false, Bool.not_eq_true, Bool.not_eq_false, deads, List.replicate, argsF, am7, c21, pm21, m1, m2, m3, g1, g2, app_get0, app_get, app_set0, app_set, Ses.cs, newS]
theorem new_no {N n : Nat} (hn : 2 ≤ n) {me other view : Int} (hm : mayS me other view = false) (h : Heap) : callA am N n 7 [.int .i64 me, .int .i64 other, .int .i64 view] h = some (.tup [.nilp, .int .i64 2], h ++ [⟨0, .dead⟩]) := by
  obtain ⟨n, rfl⟩ : ∃ m, n = m + 1 := ⟨n - 1, by omega⟩
  have c21 := @node_spec N n (by omega)
  have e : ((!nodeB me) || ((!nodeB other) || ((me == other) || (decide (view < 0) || decide (view > 4611686018427387904))))) = true := by
    have e1 : decide (0 ≤ view) = !decide (view < 0) := by rw [Bool.eq_iff_iff]; simp
    have e2 : decide (view ≤ 4611686018427387904) = !decide (view > 4611686018427387904) := by rw [Bool.eq_iff_iff]; simp
    unfold mayS at hm
    rw [e1, e2] at hm
    revert hm
    cases nodeB me <;> cases nodeB other <;> cases (me == other) <;> cases decide (view < 0) <;> cases decide (view > 4611686018427387904) <;> simp
  refine call_keep_eq at7 rfl rfl (by decide) (sx_wp ?_)
  simp +contextual -implicitDefEqProofs (maxSteps := 10000000) only [sx_seq, sxL_succ, lpQ_norm, lpQ_exit, lpQ_ret, loopQ_norm, loopQ_exit, loopQ_ret, sqQ_norm, sqQ_ret, sqQ_exit, sx_block, blkQ_norm, blkQ_exit, blkQ_ret, sx_cond, cdP_true, cdP_false, cdP_bool, sx_region, sx_draw, plainD, List.all_cons, List.all_nil, List.isEmpty_nil, List.isEmpty_cons, sxo_nil, sxo_cons, sxo_guard, gdS_bool, gdS_eff, gdS_tup, gdS_sel, gdS_seleff, sxK_def, wcall_some, effP_ret, effP_set, effP_none, effP_ite, wop_call, wop_cv, cvP_func, sx_ret, sx_exit, sx_skip, sx_clr, sx_fresh, stays, ↓selV_wt, ↓selV_wf, ↓impB_wt, ↓impB_wf, ↓selV_nor, ↓impB_nor, ↓selV_nt, ↓selV_nf, ↓impB_nt, ↓impB_nf, wantB_true, wantB_false, ↓selV_true, ↓selV_false, ↓selV_and, ↓impB_true, ↓impB_false, ↓impB_and, impB_triv, valOf_some, retH_some, ↓prim_pick, pickO_true, pickO_false, pickO_and, pickO_or, pickO_andr, pickO_orr, pickO_orrn, pickO_orn, pickO_bb, pickAnd_bool, pickOr_bool, ↓selV_nn, ↓impB_nn, Bool.and_assoc, Bool.or_assoc, doOp, ev_fr, ev_cst, put_none, put_fr, get, ins, del, dels, Nat.reduceLT, Nat.reduceEqDiff, ↓reduceIte, reduceCtorEq, ne_eq, not_false_eq_true, implies_true, framed_pureF, framed_fb, framed_N, framed_pure, wop_prim, prim, YLD, mkA, V.cells, List.getElem?_cons_zero, List.getElem?_cons_succ, List.set_cons_zero, List.set_cons_succ, Nat.zero_add, Nat.add_zero, Nat.reduceAdd, Nat.reduceSub, Nat.reduceMul, Nat.reduceLeDiff, Nat.not_lt_zero, List.map_cons, List.map_nil, List.cons_append, List.nil_append, loadA, cellsAt, nAg, packA, opt_bind_some, opt_map_some, opt_bind_none, opt_map_none, List.drop, List.take, List.head?, List.length_cons, List.length_nil, binA, unA, eqCells, eqCell, negB, fillA, sr_nil, sr_cons, sr_succ, sr_all, sr_len, storeA, Ob.with, indexedI, V.oneCell, intOf?, retQ_ret, retQ_norm, resA, resA1, fr_getD, packR, sealDepth, shut_bool, shut_int, Option.some.injEq, V.bool.injEq, V.int.injEq, Bool.not_true, Bool.not_false, true_and, and_true, and_self, Bool.and_true, Bool.and_false, Bool.true_and, Bool.false_and, Bool.or_true, Bool.or_false, Bool.true_or, Bool.false_or, Bool.false_eq_true, Int.reduceLT, Int.reduceLE, Int.reduceToNat, Int.reduceNeg, shut_plain, freeL_cons, freeL_nil, free_int, free_bool, free_agg, free_str, free_nils, free_tup, free_sl, true_implies, false_implies, Nat.sub_zero, Int.natCast_nonneg, Int.toNat_natCast, Nat.le_refl, not_true_eq_false, Int.reduceAdd, Int.reduceSub, Int.reduceMul, wrap64, false_and, and_false, cond_true, cond_false, Bool.cond_true_left, Bool.cond_false_right, Int.reduceBNe, Int.reduceBEq, decide_true, decide_false, Int.cast_ofNat_Int, Nat.mul_one, eq_self, Bool.true_eq_false, Bool.not_eq_true, Bool.not_eq_false, deads, List.replicate, argsF, am7, c21, pm21, e]
end Go.Am.T


set_option linter.unusedVariables false
set_option linter.unusedSimpArgs false
set_option maxRecDepth 10000
namespace Go.Am.T
attribute [local congr] selV_congr impB_congr
theorem frame_free {m : FMode} {pureF : FuncId → FMode} {call : Caller} {f : FuncId} {args : List V} {h : Heap} {v : V} (hm : pureF f = m) (hk : m = .keep ∨ m = .auto) (hR : V.objsL args = [])
    (hc : ∀ h, call f args h = some (v, h)) (hv : v.objs = []) (hy : f ≠ YLD := by decide) : frameC pureF call f args h = some (v, h) := by
  have hlen : (keepOnly [] h).length = h.length := keepOnly_length _ _
  have c1 : closedIn [] h.length (keepOnly [] h) = true := closedIn_of fun o y hy hi => by
    have : o < h.length := by rw [← hlen]; exact (List.getElem?_eq_some_iff.1 hy).1
    simp [inside] at hi
    omega
  have key : mergeH [] h (keepOnly [] h) = h := by
    apply List.ext_getElem?
    intro o
    rw [mergeH_get]
    rcases Nat.lt_or_ge o h.length with ho | ho
    · rw [keepOnly_get, List.getElem?_eq_getElem ho]
      simp [inside, Nat.not_le.2 ho, List.getD_eq_getElem?_getD, ho]
    · rw [List.getElem?_eq_none (by omega), List.getElem?_eq_none ho]; rfl
  unfold frameC
  rw [if_neg hy, hm]
  rcases hk with rfl | rfl <;>
  · simp only [hR, reachC_nil, c1, hc, hlen, hv, List.all_nil, Nat.le_refl, decide_true, Bool.and_self, ↓reduceIte, key]
theorem cs_len {s : Ses} {W : V} : (s.cs W).length = 9 := rfl
structure Beyond (H H' : Heap) (a : Nat) (R : List Nat) (R' : List Nat) : Prop where
  len : H.length ≤ H'.length
  oth : ∀ o, o < H.length → o ≠ a → o ∉ R → H'[o]? = H[o]?
  new : ∀ o ∈ R', o ∈ R ∨ H.length ≤ o
set_option maxHeartbeats 1000000 in
theorem send_long {N n : Nat} (hn : 2 ≤ n) {a : Nat} {s : Ses} {W : V} {L : List V} {R : List Nat} {h : Heap} (ha : SAt h a s L W R) {l : List Int} {b : V} (hb : By l b) (hl : 256 < l.length) :
    callA am N n 10 [.ptr a 1 0, b] h = some (.int .i64 3, h ++ [⟨0, .dead⟩]) := by
  obtain ⟨n, rfl⟩ : ∃ m, n = m + 1 := ⟨n - 1, by omega⟩
  have hal := lt_of_get ha.ob
  have ha0 : SAt (h ++ [⟨0, .dead⟩]) a s L W R := ⟨by rw [List.getElem?_append_left hal]; exact ha.ob, ha.row.keep (fun o ho => List.getElem?_append_left (ha.row.lt o ho)), ha.bods, ha.apart⟩
  have c22 := @is_spec N n (by omega) _ _ _ _ _ _ ha0
  have hlen := hb.len
  have hns := hb.nstr
  have g1 : decide ((l.length : Int) > 256) = true := decide_eq_true (by omega)
  refine call_keep_eq at10 rfl rfl (by decide) (sx_wp ?_)
  simp +contextual -implicitDefEqProofs (maxSteps := 10000000) only [sx_seq, sxL_succ, lpQ_norm, lpQ_exit, lpQ_ret, loopQ_norm, loopQ_exit, loopQ_ret, sqQ_norm, sqQ_ret, sqQ_exit, sx_block, blkQ_norm, blkQ_exit, blkQ_ret, sx_cond, cdP_true, cdP_false, cdP_bool, sx_region, sx_draw, plainD, List.all_cons, List.all_nil, List.isEmpty_nil, List.isEmpty_cons, sxo_nil, sxo_cons, sxo_guard, gdS_bool, gdS_eff, gdS_tup, gdS_sel, gdS_seleff, sxK_def, wcall_some, effP_ret, effP_set, effP_none, effP_ite, wop_call, wop_cv, cvP_func, sx_ret, sx_exit, sx_skip, sx_clr, sx_fresh, stays, ↓selV_wt, ↓selV_wf, ↓impB_wt, ↓impB_wf, ↓selV_nor, ↓impB_nor, ↓selV_nt, ↓selV_nf, ↓impB_nt, ↓impB_nf, wantB_true, wantB_false, ↓selV_true, ↓selV_false, ↓selV_and, ↓impB_true, ↓impB_false, ↓impB_and, impB_triv, valOf_some, retH_some, ↓prim_pick, pickO_true, pickO_false, pickO_and, pickO_or, pickO_andr, pickO_orr, pickO_orrn, pickO_orn, pickO_bb, pickAnd_bool, pickOr_bool, ↓selV_nn, ↓impB_nn, Bool.and_assoc, Bool.or_assoc, doOp, ev_fr, ev_cst, put_none, put_fr, get, ins, del, dels, Nat.reduceLT, Nat.reduceEqDiff, ↓reduceIte, reduceCtorEq, ne_eq, not_false_eq_true, implies_true, framed_pureF, framed_fb, framed_N, framed_pure, wop_prim, prim, YLD, mkA, V.cells, List.getElem?_cons_zero, List.getElem?_cons_succ, List.set_cons_zero, List.set_cons_succ, Nat.zero_add, Nat.add_zero, Nat.reduceAdd, Nat.reduceSub, Nat.reduceMul, Nat.reduceLeDiff, Nat.not_lt_zero, List.map_cons, List.map_nil, List.cons_append, List.nil_append, loadA, cellsAt, nAg, packA, opt_bind_some, opt_map_some, opt_bind_none, opt_map_none, List.drop, List.take, List.head?, List.length_cons, List.length_nil, binA, unA, eqCells, eqCell, negB, fillA, sr_nil, sr_cons, sr_succ, sr_all, sr_len, storeA, Ob.with, indexedI, V.oneCell, intOf?, retQ_ret, retQ_norm, resA, resA1, fr_getD, packR, sealDepth, shut_bool, shut_int, Option.some.injEq, V.bool.injEq, V.int.injEq, Bool.not_true, Bool.not_false, true_and, and_true, and_self, Bool.and_true, Bool.and_false, Bool.true_and, Bool.false_and, Bool.or_true, Bool.or_false, Bool.true_or, Bool.false_or, Bool.false_eq_true, Int.reduceLT, Int.reduceLE, Int.reduceToNat, Int.reduceNeg, shut_plain, freeL_cons, freeL_nil, free_int, free_bool, free_agg, free_str, free_nils, free_tup, free_sl, true_implies, false_implies, Nat.sub_zero, Int.natCast_nonneg, Int.toNat_natCast, Nat.le_refl, not_true_eq_false, Int.reduceAdd, Int.reduceSub, Int.reduceMul, wrap64, false_and, and_false, cond_true, cond_false, Bool.cond_true_left, Bool.cond_false_right, Int.reduceBNe, Int.reduceBEq, decide_true, decide_false, Int.cast_ofNat_Int, Nat.mul_one, eq_self, Bool.true_eq_false, Bool.not_eq_true, Bool.not_eq_false, deads, List.replicate, argsF, am10, c22, hlen, g1]
theorem send_spec {N n : Nat} (hn : 2 ≤ n) {a : Nat} {s : Ses} {W : V} {L : List V} {R : List Nat} {h : Heap} (ha : SAt h a s L W R) {l : List Int} {b : V} (hb : By l b) (hl : l.length ≤ 256) (hL : L.length ≤ 1000) :
    ∃ v' h', callA am N n 10 [.ptr a 1 0, b] h = some (v', h') ∧ v' = .int .i64 0 ∧ ∃ b' W' R', By l b' ∧ SAt h' a s (L ++ [b']) W' R' ∧ Beyond h h' a R R' := by
  obtain ⟨n, rfl⟩ : ∃ m, n = m + 1 := ⟨n - 1, by omega⟩
  have hal := lt_of_get ha.ob
  obtain ⟨h0, e0⟩ : ∃ h0, h0 = h ++ [(⟨0, .dead⟩ : Ob)] := ⟨_, rfl⟩
  have x0 : ∀ o, o < h.length → h0[o]? = h[o]? := fun o ho => by rw [e0, List.getElem?_append_left ho]
  have l0 : h0.length = h.length + 1 := by rw [e0]; simp
  have d0 : h0[h.length]? = some ⟨0, .dead⟩ := by rw [e0, app_get0]; rfl
  have ha0 : SAt h0 a s L W R := ⟨by rw [x0 a hal]; exact ha.ob, ha.row.keep (fun o ho => x0 o (ha.row.lt o ho)), ha.bods, ha.apart⟩
  have e0' := e0.symm
  have c22 := @is_spec N n (by omega) _ _ _ _ _ _ ha0
  have hlen := hb.len
  have hns := hb.nstr
  have g1 : decide ((l.length : Int) > 256) = false := decide_eq_false (by omega)
  obtain ⟨b', hb', c23⟩ := @clone_spec N n (by omega) l b hb (by omega)
  have hobb : b.objs = [] := hb.objs
  have f23 : ∀ fb (h : Heap), ({ pureF := pureOf am, call := callA am N n, N := N, fb := fb } : Env).framed.call 23 [b] h = some (b', h) := fun fb h =>
    frame_free pm23 (.inr rfl) (by simp [V.objsL, hobb]) c23 hb'.objs
  have k1 := hb'.cells
  have k2 := hb'.one
  have k3 := hb'.njunk
  have k4 := hb'.nagg
  have k5 := hb'.ntup
  obtain ⟨o1, y, W', hA, hrow, ho1, hol⟩ := ha0.row.append d0 k1 k2 hL
  obtain ⟨w1, w2, w3, w4, w5, w6⟩ := hrow.shape
  obtain ⟨v1, v2, v3, v4, v5, v6⟩ := ha0.row.shape
  have hne : o1 ≠ a := by
    rcases ho1 with rfl | ho1
    · omega
    · intro e; subst e; exact ha.apart ho1
  have g2 : (h0.set o1 y)[a]? = some ⟨1, .var (s.cs W)⟩ := by rw [List.getElem?_set_ne hne]; exact ha0.ob
  have oa := ha0.ob
  have r1 : List.range 1 = [0] := rfl
  have q1 : List.take 1 (List.drop 4 (s.cs W)) = [W] := rfl
  have q2 : setRange (s.cs W) 4 [W'] = s.cs W' := rfl
  have q3 := @cs_len s W
  have wr : wrapV [b'] = b' := rfl
  have hWobj := ha0.row.objs
  refine call_keep at10 rfl rfl (by decide) (sx_wp ?_)
  simp +contextual -implicitDefEqProofs (maxSteps := 10000000) only [sx_seq, sxL_succ, lpQ_norm, lpQ_exit, lpQ_ret, loopQ_norm, loopQ_exit, loopQ_ret, sqQ_norm, sqQ_ret, sqQ_exit, sx_block, blkQ_norm, blkQ_exit, blkQ_ret, sx_cond, cdP_true, cdP_false, cdP_bool, sx_region, sx_draw, plainD, List.all_cons, List.all_nil, List.isEmpty_nil, List.isEmpty_cons, sxo_nil, sxo_cons, sxo_guard, gdS_bool, gdS_eff, gdS_tup, gdS_sel, gdS_seleff, sxK_def, wcall_some, effP_ret, effP_set, effP_none, effP_ite, wop_call, wop_cv, cvP_func, sx_ret, sx_exit, sx_skip, sx_clr, sx_fresh, stays, ↓selV_wt, ↓selV_wf, ↓impB_wt, ↓impB_wf, ↓selV_nor, ↓impB_nor, ↓selV_nt, ↓selV_nf, ↓impB_nt, ↓impB_nf, wantB_true, wantB_false, ↓selV_true, ↓selV_false, ↓selV_and, ↓impB_true, ↓impB_false, ↓impB_and, impB_triv, valOf_some, retH_some, ↓prim_pick, pickO_true, pickO_false, pickO_and, pickO_or, pickO_andr, pickO_orr, pickO_orrn, pickO_orn, pickO_bb, pickAnd_bool, pickOr_bool, ↓selV_nn, ↓impB_nn, Bool.and_assoc, Bool.or_assoc, doOp, ev_fr, ev_cst, put_none, put_fr, get, ins, del, dels, Nat.reduceLT, Nat.reduceEqDiff, ↓reduceIte, reduceCtorEq, ne_eq, not_false_eq_true, implies_true, framed_pureF, framed_fb, framed_N, framed_pure, wop_prim, prim, YLD, mkA, V.cells, List.getElem?_cons_zero, List.getElem?_cons_succ, List.set_cons_zero, List.set_cons_succ, Nat.zero_add, Nat.add_zero, Nat.reduceAdd, Nat.reduceSub, Nat.reduceMul, Nat.reduceLeDiff, Nat.not_lt_zero, List.map_cons, List.map_nil, List.cons_append, List.nil_append, loadA, cellsAt, nAg, packA, opt_bind_some, opt_map_some, opt_bind_none, opt_map_none, List.drop, List.take, List.head?, List.length_cons, List.length_nil, binA, unA, eqCells, eqCell, negB, fillA, sr_nil, sr_cons, sr_succ, sr_all, sr_len, storeA, Ob.with, indexedI, V.oneCell, intOf?, retQ_ret, retQ_norm, resA, resA1, fr_getD, packR, sealDepth, shut_bool, shut_int, Option.some.injEq, V.bool.injEq, V.int.injEq, Bool.not_true, Bool.not_false, true_and, and_true, and_self, Bool.and_true, Bool.and_false, Bool.true_and, Bool.false_and, Bool.or_true, Bool.or_false, Bool.true_or, Bool.false_or, Bool.false_eq_true, Int.reduceLT, Int.reduceLE, Int.reduceToNat, Int.reduceNeg, shut_plain, freeL_cons, freeL_nil, free_int, free_bool, free_agg, free_str, free_nils, free_tup, free_sl, true_implies, false_implies, Nat.sub_zero, Int.natCast_nonneg, Int.toNat_natCast, Nat.le_refl, not_true_eq_false, Int.reduceAdd, Int.reduceSub, Int.reduceMul, wrap64, false_and, and_false, cond_true, cond_false, Bool.cond_true_left, Bool.cond_false_right, Int.reduceBNe, Int.reduceBEq, decide_true, decide_false, Int.cast_ofNat_Int, Nat.mul_one, eq_self, Bool.true_eq_false, Bool.not_eq_true, Bool.not_eq_false, deads, List.replicate, argsF, am10, sx_drawd, reachC_nil, wpd_nil, wpd_cons, wdK_def, fpOf, fpV, fpCall, Fp.ok, disj, List.contains_cons, List.contains_nil, Nat.reduceBEq, List.all_append, V.objsL, V.objs,  List.getD_cons_zero, List.getD_cons_succ, List.append_nil, e0', c22, hlen, g1, f23, isNil, oa, q1, k1, k2, r1, wr, hA, g2, w1, w2, q2, q3, hobb, pm23, -List.drop, -List.take]
  refine ⟨by simp; omega, b', W', [o1], hb', ⟨?_, ?_, ?_, ?_⟩, ?_, ?_, ?_⟩
  · rw [List.getElem?_set_self (by simp; omega)]
  · refine hrow.keep (fun o ho => ?_)
    obtain rfl : o = o1 := by simpa using ho
    rw [List.getElem?_set_ne (Ne.symm hne)]
  · intro c hc
    rcases List.mem_append.1 hc with hc | hc
    · exact ha.bods c hc
    · obtain rfl : c = b' := by simpa using hc
      exact ⟨l, hb', hl⟩
  · simpa using Ne.symm hne
  · simp; omega
  · intro o ho hoa hoR
    rw [List.getElem?_set_ne (Ne.symm hoa), List.getElem?_set_ne, x0 o ho]
    rintro rfl
    rcases ho1 with rfl | ho1
    · omega
    · exact hoR ho1
  · intro o ho
    obtain rfl : o = o1 := by simpa using ho
    rcases ho1 with rfl | ho1
    · exact .inr (Nat.le_refl _)
    · exact .inl ho1
end Go.Am.T

