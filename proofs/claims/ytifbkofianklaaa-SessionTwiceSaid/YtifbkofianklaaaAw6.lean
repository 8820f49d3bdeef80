/- Calls of functions of mode 'auto' on the caller's memory. -/
import Derived.Test.YtifbkofianklaaaAw5
set_option linter.unusedVariables false
set_option linter.unusedSimpArgs false
namespace Go.Am

/-- A function of mode 'auto' on the caller's memory. -/
theorem call_auto_eq {p : AProg} {N n : Nat} {f : FuncId} {fn : AFunc} {args : List V} {h h' : Heap} {v : V} (hf : p[f]? = some (some fn)) (hm : fn.mode = .auto) (ha : args.length = fn.nargs) (hl : fn.nargs ≤ fn.nt)
    (hfree : V.freeL args = false)
    (H : wp ⟨pureOf p, callA p N n, N, h.length⟩ fn.body (fr fn.nt (argsF 0 args)) (h ++ deads fn.sites) (retQ fn.res fun x k => x = v ∧ k = h')) (hy : f ≠ YLD := by decide) : callA p N (n + 1) f args h = some (v, h') := by
  obtain ⟨x, k, hb, rfl, rfl⟩ := body_of_wp (by omega) H
  unfold callA
  rw [if_neg hy]
  simp only [hf, ha, ↓reduceIte, hm, hfree, hb, Bool.false_eq_true]

/-- A framed call that turns one object of those that it was handed into one without objects. -/
theorem frame_setM {m : FMode} {pureF : FuncId → FMode} {call : Caller} {f : FuncId} {args : List V} {h : Heap} {a : Nat} {x : Ob} {v : V} {R : List Nat} (hm : pureF f = m) (hk : m = .keep ∨ m = .auto) (hR : V.objsL args = R)
    (hc : call f args (keepOnly R h) = some (v, (keepOnly R h).set a x)) (ha : a ∈ R) (hal : a < h.length) (hv : v.objs = []) (hx : x.bd.objs = []) (hcl : ∀ o ∈ R, ∀ y, h[o]? = some y → ∀ i ∈ y.bd.objs, i ∈ R) (hy : f ≠ YLD := by decide) :
    frameC pureF call f args h = some (v, h.set a x) := by
  subst hR
  have hin : ∀ o, o ∈ V.objsL args → inside (V.objsL args) h.length o = true := fun o ho => by simp [inside, ho]
  have hkk : ∀ (o : Nat) (y : Ob), (keepOnly (V.objsL args) h)[o]? = some y → ∀ i ∈ y.bd.objs, inside (V.objsL args) h.length i = true := by
    intro o y hy i hi
    rw [keepOnly_get] at hy
    simp only [Option.map_eq_some_iff] at hy
    obtain ⟨z, hz, rfl⟩ := hy
    split at hi
    · rename_i hcn
      exact hin i (hcl o (by simpa using hcn) z hz i hi)
    · simp [Bd.objs] at hi
  have c1 : closedIn (V.objsL args) h.length (keepOnly (V.objsL args) h) = true := closedIn_of fun o y hy _ => hkk o y hy
  have c2 : closedIn (V.objsL args) h.length ((keepOnly (V.objsL args) h).set a x) = true := by
    refine closedIn_of fun o y hy _ => ?_
    by_cases e : o = a
    · subst e
      rw [List.getElem?_set_self (by rw [keepOnly_length]; exact hal)] at hy
      cases hy
      rw [hx]
      intro i hi
      cases hi
    · rw [List.getElem?_set_ne (Ne.symm e)] at hy
      exact hkk o y hy
  unfold frameC
  rw [if_neg hy]
  have fin : ∀ z : Option (V × Heap), z = some (v, mergeH (V.objsL args) h ((keepOnly (V.objsL args) h).set a x)) → z = some (v, h.set a x) := ?_
  · refine fin _ ?_
    rcases hk with rfl | rfl <;> simp only [hm, c1, hc, c2, hv, List.length_set, keepOnly_length, List.all_nil, Nat.le_refl, decide_true, Bool.and_self, ↓reduceIte]
  rintro z rfl
  congr 2
  apply List.ext_getElem?
  intro o
  rw [mergeH_get]
  by_cases e : o = a
  · subst e
    rw [List.getElem?_set_self (by rw [keepOnly_length]; exact hal), List.getElem?_set_self hal]
    simp [hin o ha]
  · rw [List.getElem?_set_ne (Ne.symm e), List.getElem?_set_ne (Ne.symm e), keepOnly_get]
    cases hh : h[o]? with
    | none => rfl
    | some y =>
      simp only [Option.map_some]
      have hlt : o < h.length := (List.getElem?_eq_some_iff.1 hh).1
      have hd : h.getD o y = y := by simp [List.getD_eq_getElem?_getD, hh]
      by_cases hc : (V.objsL args).contains o = true
      · have hc' : o ∈ V.objsL args := by simpa using hc
        rw [if_pos hc, if_pos (hin o hc')]
      · simp only [hc, Bool.false_eq_true, ↓reduceIte, inside, Bool.false_or, decide_eq_true_eq]
        rw [if_neg (by omega)]
        simp [List.getD_eq_getElem?_getD, hh]


/-- A framed call that makes one new object without objects. -/
theorem frame_new {pureF : FuncId → FMode} {call : Caller} {f : FuncId} {args : List V} {h : Heap} {x : Ob} {v : Nat → V} (hm : pureF f = .keep) (hR : V.objsL args = [])
    (hc : ∀ h, call f args h = some (v h.length, h ++ [x])) (hv : ∀ n, ∀ o ∈ (v n).objs, n ≤ o) (hx : x.bd.objs = []) (hy : f ≠ YLD := by decide) : frameC pureF call f args h = some (v h.length, h ++ [x]) := by
  have hlen : (keepOnly [] h).length = h.length := keepOnly_length _ _
  have c1 : closedIn [] h.length (keepOnly [] h) = true := closedIn_of fun o y hy hi => by
    have : o < h.length := by rw [← hlen]; exact (List.getElem?_eq_some_iff.1 hy).1
    simp [inside] at hi
    omega
  have c2 : closedIn [] h.length (keepOnly [] h ++ [x]) = true := closedIn_of fun o y hy hi => by
    have h1 : h.length ≤ o := by simpa [inside] using hi
    rw [List.getElem?_append_right (by omega)] at hy
    have : o - (keepOnly [] h).length = 0 := by
      have := (List.getElem?_eq_some_iff.1 hy).1
      simp at this
      omega
    rw [this] at hy
    cases hy
    rw [hx]
    intro i hi
    cases hi
  have c3 : (v h.length).objs.all (inside [] h.length) = true := by
    rw [List.all_eq_true]
    intro o ho
    simp [inside, hv _ o ho]
  unfold frameC
  rw [if_neg hy, hm]
  simp only [hR, c1, hc, hlen, c2, c3, List.length_append, List.length_cons, List.length_nil, Nat.le_add_right, decide_true, Bool.and_self, ↓reduceIte]
  congr 2
  apply List.ext_getElem?
  intro o
  rw [mergeH_get]
  rcases Nat.lt_or_ge o h.length with ho | ho
  · rw [List.getElem?_append_left (by omega), List.getElem?_append_left ho, keepOnly_get, List.getElem?_eq_getElem ho]
    simp [inside, Nat.not_le.2 ho, List.getD_eq_getElem?_getD, ho]
  · rw [List.getElem?_append_right (by omega), List.getElem?_append_right ho, hlen]
    cases hh : [x][o - h.length]? with
    | none => rfl
    | some y => simp [inside, ho]


end Go.Am
