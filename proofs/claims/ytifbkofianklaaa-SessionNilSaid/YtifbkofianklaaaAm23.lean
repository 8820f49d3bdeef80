/- A program of the model, told in the abstract machine's words: by looking. -/
import Derived.Test.YtifbkofianklaaaAm22
set_option linter.unusedVariables false
namespace Go.Am
variable {P : Program}

/-- Does an operation make an object? -/
def makes (P : Program) : Op → Bool
  | .alloc _ | .box .. | .makeSlice .. => true
  | .convert src dst _ => match P.underlying src, P.underlying dst with | some .string, some (.slice _) => true | _, _ => false
  | .buildSlice t .. => match P.underlying t with | some (.slice e) => isByte P e | _ => false
  | .call { callee := .builtin .append, .. } => true
  | _ => false

def siteDsts (P : Program) : Code → List Nat
  | .region _ ops _ => ops.toList.filterMap fun o => if makes P o.op then o.dst else none
  | .seq a b => siteDsts P a ++ siteDsts P b
  | .cond _ a b => siteDsts P a ++ siteDsts P b
  | .block _ b | .loop b | .scope b => siteDsts P b
  | _ => []

def trF (P : Program) (p : AProg) (mode : FMode) (fn : Func) : Option AFunc :=
  match fn.body with
  | none => none
  | some c =>
    match fn.name == "runtime.NumGoroutine", trCode P (pureOf p) (siteDsts P c) (fun _ => ([], [])) c, fn.results.toList.mapM (trRes P) with
    | false, some b, some rs => some { nargs := fn.params.size + fn.nfree, nt := fn.ntmps, sites := (siteDsts P c).length, mode := mode, body := b, res := rs }
    | _, _, _ => none

theorem trF_ok {p : AProg} {mode : FMode} {fn : Func} {af : AFunc} (h : trF P p mode fn = some af) : TrFunc P p fn af := by
  unfold trF at h
  split at h
  · cases h
  rename_i c hc
  split at h
  · rename_i b rs h1 h2 h3
    cases h
    exact ⟨h1, ⟨c, _, _, hc, h2⟩, rfl, h3⟩
  · cases h

/-- Each function that is told is told rightly. -/
def TrAll (P : Program) (p : AProg) : List (Option AFunc) → Nat → Prop
  | [], _ => True
  | none :: l, k => TrAll P p l (k + 1)
  | some af :: l, k => (∃ fn, P.funcs[k]? = some fn ∧ trF P p af.mode fn = some af) ∧ TrAll P p l (k + 1)

theorem trAll_get {p : AProg} : ∀ {l : List (Option AFunc)} {k : Nat}, TrAll P p l k → ∀ (f : Nat) (af : AFunc), l[f]? = some (some af) → ∃ fn, P.funcs[k + f]? = some fn ∧ trF P p af.mode fn = some af
  | [], k, h, f, af, hf => by simp at hf
  | none :: l, k, h, f, af, hf => by
    cases f with
    | zero => simp at hf
    | succ f =>
      have := trAll_get (l := l) (k := k + 1) h f af (by simpa using hf)
      rwa [show k + 1 + f = k + (f + 1) by omega] at this
  | some a :: l, k, h, f, af, hf => by
    cases f with
    | zero => simp at hf; subst hf; exact h.1
    | succ f =>
      have := trAll_get (l := l) (k := k + 1) h.2 f af (by simpa using hf)
      rwa [show k + 1 + f = k + (f + 1) by omega] at this

theorem trProg_of {p : AProg} (h : TrAll P p p 0) : TrProg P p := fun f af hf => by
  obtain ⟨fn, h1, h2⟩ := trAll_get h f af hf
  rw [Nat.zero_add] at h1
  exact ⟨fn, h1, trF_ok h2⟩

end Go.Am
