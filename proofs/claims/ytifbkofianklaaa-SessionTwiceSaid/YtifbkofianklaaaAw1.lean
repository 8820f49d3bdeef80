/- Walking the abstract machine's code: what must hold ahead of a code so that what is asked holds behind it; slots as a short list. -/
import Derived.Test.YtifbkofianklaaaAm23
set_option linter.unusedVariables false
set_option linter.unusedSimpArgs false
namespace Go.Am

/-! ### Slots: those that bear something, rising -/

def get : List (Nat × V) → Nat → V
  | [], _ => .junk
  | (j, v) :: l, i => if i = j then v else get l i

def ins (i : Nat) (x : V) : List (Nat × V) → List (Nat × V)
  | [] => [(i, x)]
  | (j, v) :: l => if i = j then (i, x) :: l else if i < j then (i, x) :: (j, v) :: l else (j, v) :: ins i x l

def del (i : Nat) : List (Nat × V) → List (Nat × V)
  | [] => []
  | (j, v) :: l => if i = j then del i l else (j, v) :: del i l

def dels (is : List Nat) (l : List (Nat × V)) : List (Nat × V) := match is with | [] => l | i :: is => dels is (del i l)

def fr (n : Nat) (l : List (Nat × V)) : List V := (List.range n).map (get l)

def argsF : Nat → List V → List (Nat × V)
  | _, [] => []
  | i, v :: l => (i, v) :: argsF (i + 1) l

theorem fr_length (n : Nat) (l : List (Nat × V)) : (fr n l).length = n := by simp [fr]

theorem fr_getD {n : Nat} {l : List (Nat × V)} {i : Nat} (h : i < n) : (fr n l).getD i .junk = get l i := by
  simp [fr, List.getD_eq_getElem?_getD, h]

theorem fr_get? {n : Nat} {l : List (Nat × V)} {i : Nat} (h : i < n) : (fr n l)[i]? = some (get l i) := by
  simp [fr, h]

theorem get_ins (i : Nat) (x : V) (j : Nat) : ∀ (l : List (Nat × V)), get (ins i x l) j = if j = i then x else get l j
  | [] => by simp [ins, get]
  | (k, v) :: l => by
    unfold ins
    split
    · rename_i h
      subst h
      simp only [get]
      split <;> rfl
    · split
      · simp only [get]
      · rename_i h1 h2
        simp only [get, get_ins i x j l]
        by_cases e : j = k
        · subst e
          rw [if_pos rfl, if_neg (fun e => h1 e.symm), if_pos rfl]
        · rw [if_neg e, if_neg e]

theorem get_del (i j : Nat) : ∀ (l : List (Nat × V)), get (del i l) j = if j = i then .junk else get l j
  | [] => by simp [del, get]
  | (k, v) :: l => by
    unfold del
    split
    · rename_i h
      subst h
      rw [get_del i j l]
      simp only [get]
      split <;> rfl
    · rename_i h1
      simp only [get, get_del i j l]
      by_cases e : j = k
      · subst e
        rw [if_pos rfl, if_neg (fun e => h1 e.symm), if_pos rfl]
      · rw [if_neg e, if_neg e]

theorem fr_set (n : Nat) (l : List (Nat × V)) (i : Nat) (x : V) : (fr n l).set i x = fr n (ins i x l) := by
  apply List.ext_getElem?
  intro j
  rcases Nat.lt_or_ge j n with h | h
  · rw [fr_get? h, get_ins]
    by_cases e : j = i
    · subst e
      rw [if_pos rfl, List.getElem?_set_self (by rw [fr_length]; exact h)]
    · rw [if_neg e, List.getElem?_set_ne (Ne.symm e), fr_get? h]
  · rw [List.getElem?_eq_none (by rw [List.length_set, fr_length]; exact h), List.getElem?_eq_none (by rw [fr_length]; exact h)]

theorem fr_del (n : Nat) (l : List (Nat × V)) (i : Nat) : (fr n l).set i .junk = fr n (del i l) := by
  rw [fr_set]
  unfold fr
  apply List.map_congr_left
  intro j _
  rw [get_ins, get_del]

theorem fr_clear (n : Nat) : ∀ (is : List Nat) (l : List (Nat × V)), clear is (fr n l) = fr n (dels is l)
  | [], l => rfl
  | i :: is, l => by
    have : clear (i :: is) (fr n l) = clear is ((fr n l).set i .junk) := rfl
    rw [this, fr_del, fr_clear n is]
    rfl

theorem get_argsF : ∀ (l : List V) (k i : Nat), get (argsF k l) i = if i < k then .junk else l.getD (i - k) .junk
  | [], k, i => by simp [argsF, get]
  | v :: l, k, i => by
    simp only [argsF, get, get_argsF l]
    by_cases h : i = k
    · subst h; simp
    · rw [if_neg h]
      by_cases h1 : i < k
      · rw [if_pos (by omega), if_pos h1]
      · rw [if_neg (by omega), if_neg h1, show i - k = (i - (k + 1)) + 1 by omega, List.getD_cons_succ]

theorem fr_args (args : List V) (n : Nat) (h : args.length ≤ n) : args ++ List.replicate (n - args.length) .junk = fr n (argsF 0 args) := by
  apply List.ext_getElem?
  intro i
  rcases Nat.lt_or_ge i n with hi | hi
  · rw [fr_get? hi, get_argsF, if_neg (by omega), Nat.sub_zero, List.getD_eq_getElem?_getD]
    rcases Nat.lt_or_ge i args.length with k | k
    · rw [List.getElem?_append_left k, List.getElem?_eq_getElem k]; rfl
    · rw [List.getElem?_append_right k, List.getElem?_replicate, if_pos (by omega), List.getElem?_eq_none k]; rfl
  · rw [List.getElem?_eq_none (by simp; omega), List.getElem?_eq_none (by rw [fr_length]; exact hi)]

theorem ev_fr {n : Nat} {l : List (Nat × V)} {i : Nat} (h : i < n) : ev (fr n l) (.tmp i) = get l i := fr_getD h
theorem ev_cst (t : List V) (v : V) : ev t (.cst v) = v := rfl
theorem put_none (t : List V) (v : V) : put t none v = t := rfl
theorem put_fr (n : Nat) (l : List (Nat × V)) (i : Nat) (v : V) : put (fr n l) (some i) v = fr n (ins i v l) := fr_set n l i v

/-! ### What must hold ahead -/

structure Env where
  pureF : FuncId → FMode
  call : Caller
  N : Nat
  fb : Nat

def Env.framed (E : Env) : Env := { E with call := frameC E.pureF E.call }

abbrev Post := Ex → List V → Heap → Prop

def wp (E : Env) (c : ACode) (t : List V) (h : Heap) (Q : Post) : Prop :=
  match exec E.pureF E.call E.N E.fb c t h with
  | some (e, t', h') => Q e t' h'
  | none => False

def seqQ (E : Env) (b : ACode) (Q : Post) : Post := fun e t h =>
  match e with
  | .norm => wp E b t h Q
  | e => Q e t h

def blkQ (id : Nat) (Q : Post) : Post := fun e t h =>
  match e with
  | .exit i => if i = id then Q .norm t h else Q (.exit i) t h
  | e => Q e t h

def condP (E : Env) (v : V) (a b : ACode) (t : List V) (h : Heap) (Q : Post) : Prop :=
  match v with
  | .bool x => (x = true → wp E a t h Q) ∧ (x = false → wp E b t h Q)
  | _ => False

abbrev Cont := List V → Heap → Prop

def wpo (E : Env) (ops : List AOper) (t : List V) (h : Heap) (K : Cont) : Prop :=
  match runOps E.call E.fb ops t h with
  | some (t', h') => K t' h'
  | none => False

/-- Behind an operation: its value goes into its slot; on. -/
def opK (E : Env) (dst : Option Nat) (os : List AOper) (t : List V) (K : Cont) (v : V) (h : Heap) : Prop := wpo E os (put t dst v) h K

def wcall (r : Option (V × Heap)) (C : V → Heap → Prop) : Prop :=
  match r with
  | some (v, h) => C v h
  | none => False

def effP (e : Option Eff) (h : Heap) (C : V → Heap → Prop) : Prop :=
  match e with
  | some (.ret v) => C v h
  | some (.set o x v) => C v (h.set o x)
  | none => False

def wop (E : Env) (op : AOp) (t : List V) (h : Heap) (C : V → Heap → Prop) : Prop :=
  wcall (doOp E.call E.fb op (ev t) h) C

def gdP (E : Env) (v : V) (want : Bool) (op : AOp) (dst : Option Nat) (os : List AOper) (t : List V) (h : Heap) (K : Cont) : Prop :=
  match v with
  | .bool x => (x = want → wop E op t h (opK E dst os t K)) ∧ (x = !want → wpo E os (put t dst (.tup [])) h K)
  | .tup [] => wpo E os (put t dst (.tup [])) h K
  | _ => False

theorem wp_skip {E : Env} {t : List V} {h : Heap} {Q : Post} : wp E .skip t h Q = Q .norm t h := rfl
theorem wp_ret {E : Env} {t : List V} {h : Heap} {Q : Post} : wp E .ret t h Q = Q .ret t h := rfl
theorem wp_exit {E : Env} {i : Nat} {t : List V} {h : Heap} {Q : Post} : wp E (.exit i) t h Q = Q (.exit i) t h := rfl
theorem wp_clr {E : Env} {l : List Nat} {n : Nat} {t : List (Nat × V)} {h : Heap} {Q : Post} : wp E (.clr l) (fr n t) h Q = Q .norm (fr n (dels l t)) h := by
  rw [← fr_clear]; rfl
theorem wp_seq {E : Env} {a b : ACode} {t : List V} {h : Heap} {Q : Post} : wp E (.seq a b) t h Q = wp E a t h (seqQ E b Q) := by
  unfold wp
  simp only [exec]
  cases exec E.pureF E.call E.N E.fb a t h with
  | none => rfl
  | some r => obtain ⟨e, t', h'⟩ := r; cases e <;> rfl
theorem seqQ_norm {E : Env} {b : ACode} {Q : Post} {t : List V} {h : Heap} : seqQ E b Q .norm t h = wp E b t h Q := rfl
theorem seqQ_exit {E : Env} {b : ACode} {Q : Post} {i : Nat} {t : List V} {h : Heap} : seqQ E b Q (.exit i) t h = Q (.exit i) t h := rfl
theorem seqQ_ret {E : Env} {b : ACode} {Q : Post} {t : List V} {h : Heap} : seqQ E b Q .ret t h = Q .ret t h := rfl
theorem wp_block {E : Env} {i : Nat} {b : ACode} {t : List V} {h : Heap} {Q : Post} : wp E (.block i b) t h Q = wp E b t h (blkQ i Q) := by
  unfold wp
  simp only [exec]
  cases exec E.pureF E.call E.N E.fb b t h with
  | none => rfl
  | some r =>
    obtain ⟨e, t', h'⟩ := r
    cases e with
    | exit j => by_cases hj : j = i <;> simp [blkQ, hj]
    | _ => rfl
theorem blkQ_norm {i : Nat} {Q : Post} {t : List V} {h : Heap} : blkQ i Q .norm t h = Q .norm t h := rfl
theorem blkQ_ret {i : Nat} {Q : Post} {t : List V} {h : Heap} : blkQ i Q .ret t h = Q .ret t h := rfl
theorem blkQ_exit {i j : Nat} {Q : Post} {t : List V} {h : Heap} : blkQ i Q (.exit j) t h = if j = i then Q .norm t h else Q (.exit j) t h := rfl
theorem wp_cond {E : Env} {c : Opd} {a b : ACode} {t : List V} {h : Heap} {Q : Post} : wp E (.cond c a b) t h Q = condP E (ev t c) a b t h Q := by
  unfold wp condP
  simp only [exec]
  cases ev t c with
  | bool x => cases x <;> simp [wp]
  | _ => rfl
theorem condP_true {E : Env} {a b : ACode} {t : List V} {h : Heap} {Q : Post} : condP E (.bool true) a b t h Q = wp E a t h Q := by simp [condP]
theorem condP_false {E : Env} {a b : ACode} {t : List V} {h : Heap} {Q : Post} : condP E (.bool false) a b t h Q = wp E b t h Q := by simp [condP]
theorem condP_bool {E : Env} {x : Bool} {a b : ACode} {t : List V} {h : Heap} {Q : Post} : condP E (.bool x) a b t h Q = ((x = true → wp E a t h Q) ∧ (x = false → wp E b t h Q)) := rfl
theorem wp_region {E : Env} {ops : List AOper} {t : List V} {h : Heap} {Q : Post} : wp E (.region ops) t h Q = wpo E ops t h (Q .norm) := by
  unfold wp wpo
  simp only [exec]
  cases runOps E.call E.fb ops t h <;> rfl
theorem wpo_nil {E : Env} {t : List V} {h : Heap} {K : Cont} : wpo E [] t h K = K t h := rfl
theorem wpo_cons {E : Env} {dst : Option Nat} {op : AOp} {os : List AOper} {t : List V} {h : Heap} {K : Cont} : wpo E (⟨dst, op, none⟩ :: os) t h K = wop E op t h (opK E dst os t K) := by
  unfold wpo wop
  simp only [runOps, stepOp, wanted]
  cases doOp E.call E.fb op (ev t) h <;> rfl
theorem wpo_guard {E : Env} {dst : Option Nat} {op : AOp} {g : Nat} {w : Bool} {os : List AOper} {t : List V} {h : Heap} {K : Cont} :
    wpo E (⟨dst, op, some (g, w)⟩ :: os) t h K = gdP E (ev t (.tmp g)) w op dst os t h K := by
  unfold wpo gdP
  simp only [runOps, stepOp, wanted, ev]
  cases t.getD g .junk with
  | bool b =>
    cases b <;> cases w <;> simp [wop, wpo, opK] <;> cases doOp E.call E.fb op (ev t) h <;> rfl
  | tup l => cases l <;> rfl
  | _ => rfl
theorem gdP_true {E : Env} {op : AOp} {dst : Option Nat} {os : List AOper} {t : List V} {h : Heap} {K : Cont} : gdP E (.bool true) true op dst os t h K = wop E op t h (opK E dst os t K) := by simp [gdP]
theorem gdP_tf {E : Env} {op : AOp} {dst : Option Nat} {os : List AOper} {t : List V} {h : Heap} {K : Cont} : gdP E (.bool true) false op dst os t h K = wpo E os (put t dst (.tup [])) h K := by simp [gdP]
theorem gdP_ft {E : Env} {op : AOp} {dst : Option Nat} {os : List AOper} {t : List V} {h : Heap} {K : Cont} : gdP E (.bool false) true op dst os t h K = wpo E os (put t dst (.tup [])) h K := by simp [gdP]
theorem gdP_false {E : Env} {op : AOp} {dst : Option Nat} {os : List AOper} {t : List V} {h : Heap} {K : Cont} : gdP E (.bool false) false op dst os t h K = wop E op t h (opK E dst os t K) := by simp [gdP]
theorem gdP_tup {E : Env} {w : Bool} {op : AOp} {dst : Option Nat} {os : List AOper} {t : List V} {h : Heap} {K : Cont} : gdP E (.tup []) w op dst os t h K = wpo E os (put t dst (.tup [])) h K := rfl
theorem gdP_bool {E : Env} {x w : Bool} {op : AOp} {dst : Option Nat} {os : List AOper} {t : List V} {h : Heap} {K : Cont} :
    gdP E (.bool x) w op dst os t h K = ((x = w → wop E op t h (opK E dst os t K)) ∧ (x = !w → wpo E os (put t dst (.tup [])) h K)) := rfl
theorem opK_def {E : Env} {dst : Option Nat} {os : List AOper} {t : List V} {K : Cont} {v : V} {h : Heap} : opK E dst os t K v h = wpo E os (put t dst v) h K := rfl
theorem wcall_some {v : V} {h : Heap} {C : V → Heap → Prop} : wcall (some (v, h)) C = C v h := rfl
theorem effP_ret {v : V} {h : Heap} {C : V → Heap → Prop} : effP (some (.ret v)) h C = C v h := rfl
theorem effP_set {o : Nat} {x : Ob} {v : V} {h : Heap} {C : V → Heap → Prop} : effP (some (.set o x v)) h C = C v (h.set o x) := rfl
theorem effP_none {h : Heap} {C : V → Heap → Prop} : effP none h C = False := rfl
theorem effP_ite {p : Prop} [Decidable p] {a b : Option Eff} {h : Heap} {C : V → Heap → Prop} : effP (if p then a else b) h C = ((p → effP a h C) ∧ (¬ p → effP b h C)) := by
  by_cases hp : p <;> simp [hp]
theorem wop_call {E : Env} {f : FuncId} {args : List Opd} {t : List V} {h : Heap} {C : V → Heap → Prop} (hy : f ≠ 1000000007) : wop E (.call f args) t h C = wcall (E.call f (args.map (ev t)) h) C := by
  have hy' : ¬ f = YLD := hy
  simp only [wop, doOp, if_neg hy']
theorem wop_prim {E : Env} {op : AOp} {t : List V} {h : Heap} {C : V → Heap → Prop} (hc : ∀ f args, op ≠ .call f args) (hv : ∀ f args, op ≠ .callv f args) :
    wop E op t h C = effP (prim E.fb (ev t) (fun o => h[o]?) op) h C := by
  unfold wop effP
  have : doOp E.call E.fb op (ev t) h = match prim E.fb (ev t) (fun o => h[o]?) op with | some (.ret v) => some (v, h) | some (.set o x v) => some (v, h.set o x) | none => none := by
    cases op <;> first | rfl | exact absurd rfl (hc _ _) | exact absurd rfl (hv _ _)
  rw [this]
  cases prim E.fb (ev t) (fun o => h[o]?) op with
  | none => rfl
  | some e => cases e <;> rfl

theorem wp_mono {E : Env} {c : ACode} {t : List V} {h : Heap} {Q Q' : Post} (H : wp E c t h Q) (hQ : ∀ e t h, Q e t h → Q' e t h) : wp E c t h Q' := by
  unfold wp at *
  cases he : exec E.pureF E.call E.N E.fb c t h with
  | none => rw [he] at H; exact H
  | some r => rw [he] at H; exact hQ _ _ _ H

/-! ### Loops -/

def loopQ (i k : Nat) (I : Nat → List V → Heap → Prop) (Q : Post) : Post := fun e t h =>
  match e with
  | .norm => i < k ∧ I (i + 1) t h
  | e => Q e t h

theorem loopQ_norm {i k : Nat} {I : Nat → List V → Heap → Prop} {Q : Post} {t : List V} {h : Heap} : loopQ i k I Q .norm t h = (i < k ∧ I (i + 1) t h) := rfl
theorem loopQ_exit {i k j : Nat} {I : Nat → List V → Heap → Prop} {Q : Post} {t : List V} {h : Heap} : loopQ i k I Q (.exit j) t h = Q (.exit j) t h := rfl
theorem loopQ_ret {i k : Nat} {I : Nat → List V → Heap → Prop} {Q : Post} {t : List V} {h : Heap} : loopQ i k I Q .ret t h = Q .ret t h := rfl

theorem wp_loop {E : Env} {b : ACode} {t : List V} {h : Heap} {Q : Post} (I : Nat → List V → Heap → Prop) (k : Nat) (hk : k < E.N) (h0 : I 0 t h)
    (hs : ∀ i t h, i ≤ k → I i t h → wp E b t h (loopQ i k I Q)) : wp E (.loop [] [] b) t h Q := by
  unfold wp
  simp only [exec]
  have key : ∀ (m i : Nat) (t : List V) (h : Heap), i ≤ k → k - i < m → I i t h →
      match loopN (exec E.pureF E.call E.N E.fb b) (fun t h => (clear [] t, killA E.fb [] h)) m t h with | some (e, t', h') => Q e t' h' | none => False := by
    intro m
    induction m with
    | zero => intro i t h _ hm; omega
    | succ m ih =>
      intro i t h hi hm hI
      have H := hs i t h hi hI
      unfold wp at H
      simp only [loopN, clear, killA, List.foldl]
      cases he : exec E.pureF E.call E.N E.fb b t h with
      | none => rw [he] at H; exact H
      | some r =>
        obtain ⟨e, t', h'⟩ := r
        rw [he] at H
        cases e with
        | norm =>
          obtain ⟨h1, h2⟩ := H
          exact ih (i + 1) t' h' (by omega) (by omega) h2
        | _ => exact H
  exact key E.N 0 t h (Nat.zero_le _) (by omega) h0

/-! ### Regions whose order is open -/

def wpd (E : Env) (n : Nat) (ops : List (AOper × List Nat)) (fps : List Fp) (t : List V) (h : Heap) (K : Cont) : Prop :=
  match runDraw E.pureF E.call E.fb n ops fps t h with
  | some (t', h') => K t' h'
  | none => False

theorem wp_draw {E : Env} {ops : List (AOper × List Nat)} {t : List V} {h : Heap} {Q : Post} : wp E (.draw ops) t h Q = wpd E.framed h.length ops [] t h (Q .norm) := by
  unfold wp wpd
  simp only [exec, Env.framed]
  cases runDraw E.pureF (frameC E.pureF E.call) E.fb h.length ops [] t h <;> rfl

/-- Are there no two that might meet? -/
def plainD (ops : List (AOper × List Nat)) : Bool := ops.all fun x => x.2.isEmpty

theorem runDraw_plain {pureF : FuncId → FMode} {call : Caller} {fb n : Nat} : ∀ (ops : List (AOper × List Nat)) (fps : List Fp) (t : List V) (h : Heap), plainD ops = true →
    runDraw pureF call fb n ops fps t h = runOps call fb (ops.map (·.1)) t h
  | [], fps, t, h, _ => rfl
  | (o, ps) :: os, fps, t, h, hp => by
    simp only [plainD, List.all_cons, Bool.and_eq_true, List.isEmpty_iff] at hp
    obtain ⟨rfl, hp⟩ := hp
    simp only [runDraw, List.all_nil, ↓reduceIte, List.map_cons, runOps]
    cases stepOp call fb o t h with
    | none => rfl
    | some r => exact runDraw_plain os _ _ _ hp

theorem wp_draw_plain {E : Env} {ops : List (AOper × List Nat)} {t : List V} {h : Heap} {Q : Post} (hp : plainD ops = true) : wp E (.draw ops) t h Q = wpo E.framed (ops.map (·.1)) t h (Q .norm) := by
  rw [wp_draw]
  unfold wpd wpo
  rw [runDraw_plain ops _ _ _ hp]

theorem framed_pureF {E : Env} : E.framed.pureF = E.pureF := rfl
theorem framed_fb {E : Env} : E.framed.fb = E.fb := rfl
theorem framed_N {E : Env} : E.framed.N = E.N := rfl
theorem framed_pure {E : Env} {f : FuncId} {args : List V} {h : Heap} (hf : E.pureF f = .pure) (hy : f ≠ 1000000007) : E.framed.call f args h = E.call f args h := by
  have hy' : ¬ f = YLD := hy
  simp [Env.framed, frameC, hf, hy']

/-! ### Functions -/

def retQ (res : List ARes) (C : V → Heap → Prop) : Post := fun e t h =>
  match e with
  | .exit _ => False
  | _ => match resA (fun o => h[o]?) t res with | some vs => C (packR vs) h | none => False

theorem retQ_norm {res : List ARes} {C : V → Heap → Prop} {t : List V} {h : Heap} : retQ res C .norm t h = (match resA (fun o => h[o]?) t res with | some vs => C (packR vs) h | none => False) := rfl
theorem retQ_ret {res : List ARes} {C : V → Heap → Prop} {t : List V} {h : Heap} : retQ res C .ret t h = (match resA (fun o => h[o]?) t res with | some vs => C (packR vs) h | none => False) := rfl

theorem body_of_wp {p : AProg} {call : Caller} {N fb : Nat} {fn : AFunc} {args : List V} {h : Heap} {C : V → Heap → Prop} (hl : args.length ≤ fn.nt)
    (H : wp ⟨pureOf p, call, N, fb⟩ fn.body (fr fn.nt (argsF 0 args)) h (retQ fn.res C)) : ∃ v h', bodyA p call N fb fn args h = some (v, h') ∧ C v h' := by
  unfold bodyA
  rw [fr_args args fn.nt hl]
  unfold wp at H
  simp only at H
  split at H
  · rename_i e t' h' he
    rw [he]
    cases e with
    | exit i => exact H.elim
    | norm =>
      simp only [retQ] at H
      split at H
      · rename_i vs hr; exact ⟨_, _, by simp only [hr], H⟩
      · exact H.elim
    | ret =>
      simp only [retQ] at H
      split at H
      · rename_i vs hr; exact ⟨_, _, by simp only [hr], H⟩
      · exact H.elim
  · exact H.elim

theorem call_pure {p : AProg} {N n : Nat} {f : FuncId} {fn : AFunc} {args : List V} {h : Heap} {v : V} (hf : p[f]? = some (some fn)) (hm : fn.mode = .pure) (ha : args.length = fn.nargs) (hl : fn.nargs ≤ fn.nt)
    (hfree : V.freeL args = true)
    (H : wp ⟨pureOf p, callA p N n, N, 0⟩ fn.body (fr fn.nt (argsF 0 args)) (deads fn.sites) (retQ fn.res fun x h' => V.shut (fun o => h'[o]?) sealDepth x = some v)) (hy : f ≠ YLD := by decide) :
    callA p N (n + 1) f args h = some (v, h) := by
  obtain ⟨x, h', hb, hs⟩ := body_of_wp (by omega) H
  unfold callA
  rw [if_neg hy]
  simp only [hf, ha, ↓reduceIte, hm, hfree, hb, hs]


/-! ### The walk's own words: a guarded operation bears its guard in its value -/

/-- A value that is there if y holds. -/
def selV (y : Bool) (v : V) : V := match y with | true => v | false => .tup []

def impB (y : Bool) (P : Prop) : Prop := y = true → P

def valOf (r : Option (V × Heap)) : V := match r with | some (v, _) => v | none => .junk

def retH (r : Option (V × Heap)) (h : Heap) : Prop := match r with | some (_, h') => h' = h | none => False

/-- Operations that leave the memory as it is. -/
def stays (pureF : FuncId → FMode) : AOp → Bool
  | .allocz .. | .box .. | .store .. | .s2b .. | .mkslice .. | .append .. | .copy .. | .callv .. | .clearS .. | .bnew .. => false
  | .call f _ => match pureF f with | .pure => true | .look => true | _ => false
  | _ => true

def wantB (x want : Bool) : Bool := match want with | true => x | false => !x

def sxo (E : Env) : List AOper → List V → Heap → Cont → Prop
  | [], t, h, K => K t h
  | o :: os, t, h, K =>
    match o.guard with
    | none => wcall (doOp E.call E.fb o.op (ev t) h) fun v h' => sxo E os (put t o.dst v) h' K
    | some (g, want) =>
      match ev t (.tmp g) with
      | .bool x =>
        match stays E.pureF o.op with
        | true => impB (wantB x want) (retH (doOp E.call E.fb o.op (ev t) h) h) ∧ sxo E os (put t o.dst (selV (wantB x want) (valOf (doOp E.call E.fb o.op (ev t) h)))) h K
        | false => (wantB x want = true → wcall (doOp E.call E.fb o.op (ev t) h) fun v h' => sxo E os (put t o.dst v) h' K) ∧ (wantB x want = false → sxo E os (put t o.dst (.tup [])) h K)
      | .tup [] => sxo E os (put t o.dst (.tup [])) h K
      | _ => False

/-- Behind an operation. -/
def sxK (E : Env) (dst : Option Nat) (os : List AOper) (t : List V) (K : Cont) (v : V) (h : Heap) : Prop := sxo E os (put t dst v) h K

def gdS (E : Env) (v : V) (want st : Bool) (op : AOp) (dst : Option Nat) (os : List AOper) (t : List V) (h : Heap) (K : Cont) : Prop :=
  match v with
  | .bool x =>
    match st with
    | true => impB (wantB x want) (retH (doOp E.call E.fb op (ev t) h) h) ∧ sxo E os (put t dst (selV (wantB x want) (valOf (doOp E.call E.fb op (ev t) h)))) h K
    | false => (wantB x want = true → wcall (doOp E.call E.fb op (ev t) h) (sxK E dst os t K)) ∧ (wantB x want = false → sxo E os (put t dst (.tup [])) h K)
  | .tup [] => sxo E os (put t dst (.tup [])) h K
  | _ => False

theorem sxo_wpo {E : Env} : ∀ {ops : List AOper} {t : List V} {h : Heap} {K : Cont}, sxo E ops t h K → wpo E ops t h K
  | [], t, h, K, H => H
  | ⟨dst, op, none⟩ :: os, t, h, K, H => by
    rw [wpo_cons]
    simp only [sxo] at H
    unfold wop
    cases hd : doOp E.call E.fb op (ev t) h with
    | none => rw [hd] at H; exact H
    | some r => rw [hd] at H; exact sxo_wpo H
  | ⟨dst, op, some (g, want)⟩ :: os, t, h, K, H => by
    rw [wpo_guard]
    simp only [sxo] at H
    unfold gdP
    split at H
    · rename_i x hx
      split at H
      · obtain ⟨h1, h2⟩ := H
        refine ⟨fun e => ?_, fun e => ?_⟩
        · subst e
          have hw : wantB x x = true := by cases x <;> rfl
          rw [hw] at h1 h2
          have h1 := h1 rfl
          unfold wop
          cases hd : doOp E.call E.fb op (ev t) h with
          | none => rw [hd] at h1; exact h1
          | some r =>
            obtain ⟨v, h'⟩ := r
            rw [hd] at h1 h2
            simp only [retH] at h1
            subst h1
            exact sxo_wpo h2
        · subst e
          have hw : wantB (!want) want = false := by cases want <;> rfl
          rw [hw] at h2
          exact sxo_wpo h2
      · obtain ⟨h1, h2⟩ := H
        refine ⟨fun e => ?_, fun e => ?_⟩
        · subst e
          have h1 := h1 (by cases x <;> rfl)
          unfold wop
          cases hd : doOp E.call E.fb op (ev t) h with
          | none => rw [hd] at h1; exact h1
          | some r => rw [hd] at h1; exact sxo_wpo h1
        · subst e
          exact sxo_wpo (h2 (by cases want <;> rfl))
    · exact sxo_wpo H
    · exact H.elim

def sx (E : Env) : ACode → List V → Heap → Post → Prop
  | .seq a b, t, h, Q => sx E a t h fun e t h => match e with | .norm => sx E b t h Q | e => Q e t h
  | .cond c a b, t, h, Q => match ev t c with | .bool x => (x = true → sx E a t h Q) ∧ (x = false → sx E b t h Q) | _ => False
  | .block i b, t, h, Q => sx E b t h (blkQ i Q)
  | .region ops, t, h, Q => sxo E ops t h (Q .norm)
  | .draw ops, t, h, Q => match plainD ops with | true => sxo E.framed (ops.map (·.1)) t h (Q .norm) | false => wpd E.framed h.length ops [] t h (Q .norm)
  | c, t, h, Q => wp E c t h Q

def sqQ (E : Env) (b : ACode) (Q : Post) : Post := fun e t h => match e with | .norm => sx E b t h Q | e => Q e t h

def cdP (E : Env) (v : V) (a b : ACode) (t : List V) (h : Heap) (Q : Post) : Prop :=
  match v with
  | .bool x => (x = true → sx E a t h Q) ∧ (x = false → sx E b t h Q)
  | _ => False

theorem sx_wp {E : Env} : ∀ {c : ACode} {t : List V} {h : Heap} {Q : Post}, sx E c t h Q → wp E c t h Q
  | .seq a b, t, h, Q, H => by
    rw [wp_seq]
    refine wp_mono (sx_wp (c := a) H) fun e t h H => ?_
    cases e with
    | norm => exact sx_wp (c := b) H
    | exit i => exact H
    | ret => exact H
  | .cond c a b, t, h, Q, H => by
    rw [wp_cond]
    simp only [sx] at H
    unfold condP
    split at H
    · exact ⟨fun e => sx_wp (H.1 e), fun e => sx_wp (H.2 e)⟩
    · exact H.elim
  | .block i b, t, h, Q, H => by rw [wp_block]; exact sx_wp (c := b) H
  | .region ops, t, h, Q, H => by rw [wp_region]; exact sxo_wpo H
  | .draw ops, t, h, Q, H => by
    simp only [sx] at H
    split at H
    · rename_i hp; rw [wp_draw_plain hp]; exact sxo_wpo H
    · rw [wp_draw]; exact H
  | .skip, t, h, Q, H => H
  | .loop _ _ _, t, h, Q, H => H
  | .exit _, t, h, Q, H => H
  | .ret, t, h, Q, H => H
  | .clr _, t, h, Q, H => H
  | .rangeF _ _ _ _ _ _ _, t, h, Q, H => H

theorem sx_seq {E : Env} {a b : ACode} {t : List V} {h : Heap} {Q : Post} : sx E (.seq a b) t h Q = sx E a t h (sqQ E b Q) := rfl
theorem sqQ_norm {E : Env} {b : ACode} {Q : Post} {t : List V} {h : Heap} : sqQ E b Q .norm t h = sx E b t h Q := rfl
theorem sqQ_exit {E : Env} {b : ACode} {Q : Post} {i : Nat} {t : List V} {h : Heap} : sqQ E b Q (.exit i) t h = Q (.exit i) t h := rfl
theorem sqQ_ret {E : Env} {b : ACode} {Q : Post} {t : List V} {h : Heap} : sqQ E b Q .ret t h = Q .ret t h := rfl
theorem sx_cond {E : Env} {c : Opd} {a b : ACode} {t : List V} {h : Heap} {Q : Post} : sx E (.cond c a b) t h Q = cdP E (ev t c) a b t h Q := rfl
theorem cdP_true {E : Env} {a b : ACode} {t : List V} {h : Heap} {Q : Post} : cdP E (.bool true) a b t h Q = sx E a t h Q := by simp [cdP]
theorem cdP_false {E : Env} {a b : ACode} {t : List V} {h : Heap} {Q : Post} : cdP E (.bool false) a b t h Q = sx E b t h Q := by simp [cdP]
theorem cdP_bool {E : Env} {x : Bool} {a b : ACode} {t : List V} {h : Heap} {Q : Post} : cdP E (.bool x) a b t h Q = ((x = true → sx E a t h Q) ∧ (x = false → sx E b t h Q)) := rfl
theorem sx_block {E : Env} {i : Nat} {b : ACode} {t : List V} {h : Heap} {Q : Post} : sx E (.block i b) t h Q = sx E b t h (blkQ i Q) := rfl
theorem sx_region {E : Env} {ops : List AOper} {t : List V} {h : Heap} {Q : Post} : sx E (.region ops) t h Q = sxo E ops t h (Q .norm) := rfl
theorem sx_draw {E : Env} {ops : List (AOper × List Nat)} {t : List V} {h : Heap} {Q : Post} (hp : plainD ops = true) : sx E (.draw ops) t h Q = sxo E.framed (ops.map (·.1)) t h (Q .norm) := by simp only [sx, hp]
theorem sx_skip {E : Env} {t : List V} {h : Heap} {Q : Post} : sx E .skip t h Q = Q .norm t h := rfl
theorem sx_ret {E : Env} {t : List V} {h : Heap} {Q : Post} : sx E .ret t h Q = Q .ret t h := rfl
theorem sx_exit {E : Env} {i : Nat} {t : List V} {h : Heap} {Q : Post} : sx E (.exit i) t h Q = Q (.exit i) t h := rfl
theorem sx_clr {E : Env} {l : List Nat} {n : Nat} {t : List (Nat × V)} {h : Heap} {Q : Post} : sx E (.clr l) (fr n t) h Q = Q .norm (fr n (dels l t)) h := wp_clr
theorem sxo_nil {E : Env} {t : List V} {h : Heap} {K : Cont} : sxo E [] t h K = K t h := rfl
theorem sxo_cons {E : Env} {dst : Option Nat} {op : AOp} {os : List AOper} {t : List V} {h : Heap} {K : Cont} : sxo E (⟨dst, op, none⟩ :: os) t h K = wop E op t h (sxK E dst os t K) := rfl
theorem sxo_guard {E : Env} {dst : Option Nat} {op : AOp} {g : Nat} {w : Bool} {os : List AOper} {t : List V} {h : Heap} {K : Cont} :
    sxo E (⟨dst, op, some (g, w)⟩ :: os) t h K = gdS E (ev t (.tmp g)) w (stays E.pureF op) op dst os t h K := by
  simp only [sxo, gdS]
  rfl
theorem gdS_bool {E : Env} {x w : Bool} {op : AOp} {dst : Option Nat} {os : List AOper} {t : List V} {h : Heap} {K : Cont} :
    gdS E (.bool x) w true op dst os t h K = (impB (wantB x w) (retH (doOp E.call E.fb op (ev t) h) h) ∧ sxo E os (put t dst (selV (wantB x w) (valOf (doOp E.call E.fb op (ev t) h)))) h K) := rfl
theorem gdS_eff {E : Env} {x w : Bool} {op : AOp} {dst : Option Nat} {os : List AOper} {t : List V} {h : Heap} {K : Cont} :
    gdS E (.bool x) w false op dst os t h K = ((wantB x w = true → wop E op t h (sxK E dst os t K)) ∧ (wantB x w = false → sxo E os (put t dst (.tup [])) h K)) := rfl
theorem gdS_tup {E : Env} {w st : Bool} {op : AOp} {dst : Option Nat} {os : List AOper} {t : List V} {h : Heap} {K : Cont} : gdS E (.tup []) w st op dst os t h K = sxo E os (put t dst (.tup [])) h K := rfl
theorem gdS_sel {E : Env} {x y w : Bool} {op : AOp} {dst : Option Nat} {os : List AOper} {t : List V} {h : Heap} {K : Cont} :
    gdS E (selV y (.bool x)) w true op dst os t h K = (impB y (impB (wantB x w) (retH (doOp E.call E.fb op (ev t) h) h)) ∧ sxo E os (put t dst (selV y (selV (wantB x w) (valOf (doOp E.call E.fb op (ev t) h))))) h K) := by
  cases y
  · simp [gdS, selV, impB]
  · simp only [selV, gdS, impB, true_implies]
theorem gdS_seleff {E : Env} {x y w : Bool} {op : AOp} {dst : Option Nat} {os : List AOper} {t : List V} {h : Heap} {K : Cont} :
    gdS E (selV y (.bool x)) w false op dst os t h K = ((y = true → gdS E (.bool x) w false op dst os t h K) ∧ (y = false → sxo E os (put t dst (.tup [])) h K)) := by
  cases y
  · simp [gdS, selV]
  · simp [gdS, selV]
theorem sxK_def {E : Env} {dst : Option Nat} {os : List AOper} {t : List V} {K : Cont} {v : V} {h : Heap} : sxK E dst os t K v h = sxo E os (put t dst v) h K := rfl
theorem wantB_true {x : Bool} : wantB x true = x := rfl
theorem wantB_false {x : Bool} : wantB x false = !x := rfl
theorem selV_true {v : V} : selV true v = v := rfl
theorem selV_false {v : V} : selV false v = .tup [] := rfl
theorem selV_and {x y : Bool} {v : V} : selV (x && y) v = selV x (selV y v) := by cases x <;> cases y <;> rfl
theorem impB_true {P : Prop} : impB true P = P := by simp [impB]
theorem impB_false {P : Prop} : impB false P = True := by simp [impB]
theorem impB_and {x y : Bool} {P : Prop} : impB (x && y) P = impB x (impB y P) := by cases x <;> cases y <;> simp [impB]
theorem impB_triv {x : Bool} : impB x True = True := by simp [impB]
theorem selV_congr {x : Bool} {v v' : V} (hv : x = true → v = v') : selV x v = selV x v' := by
  cases x with
  | true => exact hv rfl
  | false => rfl
theorem impB_congr {x : Bool} {P P' : Prop} (hv : x = true → P = P') : impB x P = impB x P' := by
  cases x with
  | true => simp only [impB, hv rfl]
  | false => simp [impB]
theorem selV_wt {x : Bool} {v : V} : selV (wantB x true) v = selV x v := rfl
theorem selV_wf {x : Bool} {v : V} : selV (wantB x false) v = selV (!x) v := rfl
theorem selV_nor {x y : Bool} {v : V} : selV (!(x || y)) v = selV (!x) (selV (!y) v) := by cases x <;> cases y <;> rfl
theorem impB_wt {x : Bool} {v : Prop} : impB (wantB x true) v = impB x v := rfl
theorem impB_wf {x : Bool} {v : Prop} : impB (wantB x false) v = impB (!x) v := rfl
theorem impB_nor {x y : Bool} {v : Prop} : impB (!(x || y)) v = impB (!x) (impB (!y) v) := by cases x <;> cases y <;> simp [impB]
theorem selV_nt {v : V} : selV (!true) v = .tup [] := rfl
theorem selV_nf {v : V} : selV (!false) v = v := rfl
theorem impB_nt {v : Prop} : impB (!true) v = True := by simp [impB]
theorem impB_nf {v : Prop} : impB (!false) v = v := by simp [impB]
theorem valOf_some {v : V} {h : Heap} : valOf (some (v, h)) = v := rfl
theorem retH_some {v : V} {h h' : Heap} : retH (some (v, h')) h = (h' = h) := rfl

def pickO (c a b : V) : Option Eff := match c with | .bool x => some (.ret (match x with | true => a | false => b)) | _ => none

def pickAnd (x : Bool) (e : Option Eff) : Option Eff := match x with | true => e | false => some (.ret (.bool false))
def pickOr (x : Bool) (e : Option Eff) : Option Eff := match x with | true => some (.ret (.bool true)) | false => e

theorem prim_pick {fb : Nat} {ρ : Opd → V} {get : Nat → Option Ob} {c a b : Opd} : prim fb ρ get (.pick c a b) = pickO (ρ c) (ρ a) (ρ b) := rfl
theorem pickO_true {a b : V} : pickO (.bool true) a b = some (.ret a) := rfl
theorem pickO_false {a b : V} : pickO (.bool false) a b = some (.ret b) := rfl
theorem pickO_and {x y : Bool} : pickO (.bool x) (selV x (.bool y)) (.bool false) = some (.ret (.bool (x && y))) := by cases x <;> rfl
theorem pickO_or {x y : Bool} : pickO (.bool x) (.bool true) (selV (!x) (.bool y)) = some (.ret (.bool (x || y))) := by cases x <;> rfl
theorem pickO_orn {x y : Bool} : pickO (.bool (!x)) (.bool true) (selV x (.bool y)) = some (.ret (.bool (!x || y))) := by cases x <;> rfl
theorem pickO_bb {x y z : Bool} : pickO (.bool x) (.bool y) (.bool z) = some (.ret (.bool (bif x then y else z))) := by cases x <;> rfl
theorem pickO_andr {x r : Bool} {w : V} : pickO (.bool (x && r)) (selV x w) (.bool false) = pickAnd x (pickO (.bool r) w (.bool false)) := by cases x <;> rfl
theorem pickO_orr {x r : Bool} {w : V} : pickO (.bool (x || r)) (.bool true) (selV (!x) w) = pickOr x (pickO (.bool r) (.bool true) w) := by cases x <;> rfl
theorem pickO_orrn {x r : Bool} {w : V} : pickO (.bool (!x || r)) (.bool true) (selV x w) = pickOr (!x) (pickO (.bool r) (.bool true) w) := by cases x <;> rfl
theorem pickAnd_bool {x y : Bool} : pickAnd x (some (.ret (.bool y))) = some (.ret (.bool (x && y))) := by cases x <;> rfl
theorem pickOr_bool {x y : Bool} : pickOr x (some (.ret (.bool y))) = some (.ret (.bool (x || y))) := by cases x <;> rfl
theorem selV_nn {x : Bool} {v : V} : selV (!!x) v = selV x v := by cases x <;> rfl
theorem impB_nn {x : Bool} {v : Prop} : impB (!!x) v = impB x v := by cases x <;> simp [impB]

end Go.Am
