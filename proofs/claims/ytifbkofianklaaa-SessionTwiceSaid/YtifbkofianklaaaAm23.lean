/- A program of the model, told in the abstract machine's words: by looking. -/
import Derived.Test.YtifbkofianklaaaAm22
set_option linter.unusedVariables false
namespace Go.Am
variable {P : Program}

/-- Does an operation make an object? -/
def makes (P : Program) : Op → Bool
  | .alloc _ | .box .. | .makeSlice .. => true
  | .convert src dst _ => match P.underlying src, P.underlying dst with | some .string, some (.slice _) => true | _, _ => false
  | .buildSlice t .. => match P.underlying t with | some (.slice e) => isByte P e | _ => false
  | .call { callee := .builtin .append, .. } => true
  | _ => false

def siteDsts (P : Program) : Code → List Nat
  | .region _ ops _ => ops.toList.filterMap fun o => if makes P o.op then o.dst else none
  | .seq a b => siteDsts P a ++ siteDsts P b
  | .cond _ a b => siteDsts P a ++ siteDsts P b
  | .block _ b | .loop b | .scope b => siteDsts P b
  | .rangeFunc _ _ a b => siteDsts P a ++ siteDsts P b
  | _ => []

/-! ### Which slots are read again: sets of slots as numbers -/

def bitIn (m d : Nat) : Bool := Nat.beq ((m >>> d) % 2) 1

def bitAdd (m d : Nat) : Nat := m ||| (1 <<< d)

def bitDel (m d : Nat) : Nat := match bitIn m d with | true => m - (1 <<< d) | false => m

/-- What is in the first and not in the second. -/
def bitSub (m n : Nat) : Nat := m - (m &&& n)

def bitsOf : Nat → Nat → List Nat
  | 0, _ => []
  | n + 1, m => match Nat.beq m 0 with | true => [] | false => Nat.log2 m :: bitsOf n (m - (1 <<< Nat.log2 m))

def opdBits (m : Nat) : Operand → Nat
  | .tmp t => bitAdd m t
  | _ => m

/-- Backward over an operation. -/
def operBits (ops : Array Oper) (o : Oper) (m : Nat) : Nat :=
  let m := match o.dst with | some d => bitDel m d | none => m
  let m := o.op.operands.toList.foldl opdBits m
  match o.guard with
  | some (g, _) => match ops[g]? with | some o' => (match o'.dst with | some d => bitAdd m d | none => m) | none => m
  | none => m

def dstBits (m : Nat) (o : Oper) : Nat := match o.dst with | some d => bitAdd m d | none => m

def exitBits (E : List (Nat × Nat)) (id : Nat) : Nat := match E with | [] => 0 | (i, m) :: E => match Nat.beq i id with | true => m | false => exitBits E id

/-- What is read again, at each place: 'E': behind the blocks, 'R': by who asks for the results, 'm': behind the code. -/
def lives : Nat → List (Nat × Nat) → Nat → Code → LT × Nat
  | _, _, m, .region _ ops _ =>
    let i := ops.toList.foldr (fun o m => operBits ops o m) m
    (.node (bitsOf 10000 (bitSub (ops.toList.foldl dstBits i) m)) .nil .nil, i)
  | R, E, m, .seq a b => let (tb, ib) := lives R E m b; let (ta, ia) := lives R E ib a; (.node [] ta tb, ia)
  | R, E, m, .cond c a b =>
    let (ta, ia) := lives R E m a
    let (tb, ib) := lives R E m b
    let i := opdBits (ia ||| ib) c
    (.node [] (.node (bitsOf 10000 (bitSub i ia)) ta .nil) (.node (bitsOf 10000 (bitSub i ib)) tb .nil), i)
  | R, E, m, .block id b => let (t, i) := lives R ((id, m) :: E) m b; (.node [] t .nil, i)
  | R, E, m, .loop b => let i := (lives R E 0 b).2; let (t, i') := lives R E i b; (.node [] t .nil, i ||| i')
  | R, E, m, .scope b => lives R E m b
  | _, E, _, .exit id => (.nil, exitBits E id)
  | R, _, _, .ret => (.nil, R)
  | R, E, m, .rangeFunc g _ a b =>
    let (tb, ib) := lives 0 [] 0 b
    let (ta, ia) := lives 0 [] ib a
    (.node [] ta tb, opdBits (E.foldl (fun k e => k ||| e.2) (m ||| R) ||| ia) g)
  | _, _, m, _ => (.nil, m)

def resBits (m : Nat) : ResultVar → Nat
  | .tmp t => bitAdd m t
  | .cell a _ => bitAdd m a

def livesF (fn : Func) (c : Code) : LT :=
  let R := fn.results.toList.foldl resBits 0
  (lives R [] R c).1

def trF (P : Program) (p : AProg) (mode : FMode) (fid : Nat) (fn : Func) : Option AFunc :=
  match fn.body with
  | none => none
  | some c =>
    match fn.name == "runtime.NumGoroutine", trCode P (pureOf p) (siteDsts P c) fid false 0 (livesF fn c) c, fn.results.toList.mapM (trRes P) with
    | false, some b, some rs => some { nargs := fn.params.size + fn.nfree, nt := fn.ntmps, sites := (siteDsts P c).length + (rangesOf c).length, mode := mode, body := b, res := rs }
    | _, _, _ => none

theorem trF_ok {p : AProg} {mode : FMode} {fid : Nat} {fn : Func} {af : AFunc} (h : trF P p mode fid fn = some af) : TrFunc P p fid fn af := by
  unfold trF at h
  split at h
  · cases h
  rename_i c hc
  split at h
  · rename_i b rs h1 h2 h3
    cases h
    exact ⟨h1, ⟨c, _, _, hc, h2⟩, rfl, h3⟩
  · cases h

/-- Each function that is told is told rightly. -/
def TrAll (P : Program) (p : AProg) : List (Option AFunc) → Nat → Prop
  | [], _ => True
  | none :: l, k => TrAll P p l (k + 1)
  | some af :: l, k => (∃ fn, P.funcs[k]? = some fn ∧ trF P p af.mode k fn = some af) ∧ TrAll P p l (k + 1)

theorem trAll_get {p : AProg} : ∀ {l : List (Option AFunc)} {k : Nat}, TrAll P p l k → ∀ (f : Nat) (af : AFunc), l[f]? = some (some af) → ∃ fn, P.funcs[k + f]? = some fn ∧ trF P p af.mode (k + f) fn = some af
  | [], k, h, f, af, hf => by simp at hf
  | none :: l, k, h, f, af, hf => by
    cases f with
    | zero => simp at hf
    | succ f =>
      have := trAll_get (l := l) (k := k + 1) h f af (by simpa using hf)
      rw [show k + 1 + f = k + (f + 1) by omega] at this
      exact this
  | some a :: l, k, h, f, af, hf => by
    cases f with
    | zero => simp at hf; subst hf; exact h.1
    | succ f =>
      have := trAll_get (l := l) (k := k + 1) h.2 f af (by simpa using hf)
      rw [show k + 1 + f = k + (f + 1) by omega] at this
      exact this

theorem trProg_of {p : AProg} (h : TrAll P p p 0) : TrProg P p := fun f af hf => by
  obtain ⟨fn, h1, h2⟩ := trAll_get h f af hf
  rw [Nat.zero_add] at h1 h2
  exact ⟨fn, h1, trF_ok h2⟩

end Go.Am
