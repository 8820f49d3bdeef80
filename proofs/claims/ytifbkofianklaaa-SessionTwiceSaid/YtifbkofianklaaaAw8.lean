/- Walking loops over functions: the loop itself, and a round. -/
import Derived.Test.YtifbkofianklaaaAw6
import Derived.Test.YtifbkofianklaaaAw7
set_option linter.unusedVariables false
set_option linter.unusedSimpArgs false
namespace Go.Am

theorem setPs_nil (xs : List V) (t : List V) : setPs [] xs t = t := rfl
theorem setPs_cons {p : Nat} {ps : List Nat} {x : V} {xs : List V} {n : Nat} {l : List (Nat × V)} : setPs (p :: ps) (x :: xs) (fr n l) = setPs ps xs (fr n (ins p x l)) := by
  simp only [setPs, List.zip_cons_cons, List.foldl_cons, fr_set]

/-- The loop over a function, once the function's call is known. -/
theorem sx_rangeF {E : Env} {f : Opd} {ps : List Nat} {a b : ACode} {fid k site : Nat} {t : List V} {h : Heap} {Q : Post} {x : Ob} {g : FuncId} {xs ys : List V} {v : V} {h2 : Heap} {st : Nat} {pend : Option (Option Nat)} {t' : List V} {fb' f' k' : Nat}
    (hx : h[E.fb + site]? = some x) (hf : ev t f = .func g xs ys) (hc : E.call g (xs ++ [.yld (E.fb + site) (x.ver + 1)] ++ ys) (h.set (E.fb + site) ⟨x.ver + 1, .loop 0 none t E.fb fid k⟩) = some (v, h2))
    (h2o : h2[E.fb + site]? = some ⟨x.ver + 1, .loop st pend t' fb' f' k'⟩) (hst : st ≠ 1) (HQ : Q (jumpE pend) t (h2.set (E.fb + site) ⟨x.ver + 1, .dead⟩)) (hg : g ≠ YLD := by decide) : sx E (.rangeF f ps a b fid k site) t h Q := by
  show wp E (.rangeF f ps a b fid k site) t h Q
  unfold wp
  simp only [exec, hx, hf, if_neg hg, hc, h2o, ↓reduceIte, if_neg hst]
  exact HQ

/-- How a round ends, and what it answers. -/
def roundEnd : Ex → Nat × Option (Option Nat) × Bool
  | .norm => (0, none, true)
  | .exit id => (2, some (some id), false)
  | .ret => (2, some none, false)

/-- A round. -/
theorem call_yld {p : AProg} {N n o ver : Nat} {xs : List V} {h : Heap} {st : Nat} {pd : Option (Option Nat)} {t : List V} {fb f k : Nat} {af : AFunc} {ps : List Nat} {asn body : ACode} {v : V} {h' : Heap} (ho : h[o]? = some ⟨ver, .loop st pd t fb f k⟩) (hp : p[f]? = some (some af))
    (hr : (rangesA af.body)[k]? = some (ps, asn, body)) (hl : xs.length = ps.length)
    (H : sx ⟨pureOf p, callA p N n, N, fb⟩ asn (setPs ps xs t) h fun e t1 h1 => e = .norm ∧ ∃ p1 t2 fb2 f2 k2, h1[o]? = some ⟨ver, .loop 0 p1 t2 fb2 f2 k2⟩ ∧
      sx ⟨pureOf p, callA p N n, N, fb⟩ body t1 (h1.set o ⟨ver, .loop 1 p1 t2 fb2 f2 k2⟩) fun e t' h2 => ∃ s3 p3 t3 fb3 f3 k3, h2[o]? = some ⟨ver, .loop s3 p3 t3 fb3 f3 k3⟩ ∧
        v = .bool (roundEnd e).2.2 ∧ h' = h2.set o ⟨ver, .loop (roundEnd e).1 (roundEnd e).2.1 t3 fb3 f3 k3⟩) :
    callA p N (n + 1) YLD (.yld o ver :: xs) h = some (v, h') := by
  have H1 := sx_wp H
  unfold wp at H1
  unfold callA
  rw [if_pos rfl]
  unfold yieldA
  simp only [ho, ↓reduceIte, hp, hr, hl]
  split at H1
  case h_2 => exact H1.elim
  rename_i e t1 h1 he
  obtain ⟨rfl, p1, t2, fb2, f2, k2, ho1, H2⟩ := H1
  have H3 := sx_wp H2
  unfold wp at H3
  simp only at he
  rw [he]
  simp only [ho1, ↓reduceIte]
  split at H3
  case h_2 => exact H3.elim
  rename_i e2 t4 h2 he2
  obtain ⟨s3, p3, t3, fb3, f3, k3, ho3, rfl, rfl⟩ := H3
  simp only at he2
  rw [he2]
  simp only [ho3, ↓reduceIte]
  cases e2 <;> rfl

/-- What a row of rounds makes of a state: it goes on while the round says so. -/
def foldS {α σ : Type} (step : σ → α → σ × Bool) : List α → σ → σ
  | [], s => s
  | a :: l, s => match (step s a).2 with | true => foldS step l (step s a).1 | false => (step s a).1

end Go.Am
