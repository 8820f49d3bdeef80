/- Calls on the caller's memory inside regions whose order is open: where a call writes one object that it was handed. -/
import Derived.Test.YtifbkofianklaaaAw4
set_option linter.unusedVariables false
set_option linter.unusedSimpArgs false
namespace Go.Am

theorem closedIn_of {R : List Nat} {n : Nat} {h : Heap} (H : ∀ (o : Nat) (x : Ob), h[o]? = some x → inside R n o = true → ∀ i ∈ x.bd.objs, inside R n i = true) : closedIn R n h = true := by
  unfold closedIn
  rw [List.all_eq_true]
  rintro ⟨x, o⟩ hx
  rw [List.mem_zipIdx_iff_getElem?] at hx
  simp only [Bool.or_eq_true, Bool.not_eq_true']
  cases hi : inside R n o with
  | false => exact .inl rfl
  | true => exact .inr (List.all_eq_true.2 fun i hi' => H o x hx hi i hi')

/-- A framed call that turns one object of those that it was handed into one without objects. -/
theorem frame_set {pureF : FuncId → FMode} {call : Caller} {f : FuncId} {args : List V} {h : Heap} {a : Nat} {x : Ob} {v : V} {R : List Nat} (hm : pureF f = .keep) (hR : V.objsL args = R)
    (hc : call f args (keepOnly R h) = some (v, (keepOnly R h).set a x)) (ha : a ∈ R) (hal : a < h.length) (hv : v.objs = []) (hx : x.bd.objs = []) (hcl : ∀ o ∈ R, ∀ y, h[o]? = some y → ∀ i ∈ y.bd.objs, i ∈ R) (hy : f ≠ YLD := by decide) :
    frameC pureF call f args h = some (v, h.set a x) := by
  subst hR
  have hin : ∀ o, o ∈ V.objsL args → inside (V.objsL args) h.length o = true := fun o ho => by simp [inside, ho]
  have hk : ∀ (o : Nat) (y : Ob), (keepOnly (V.objsL args) h)[o]? = some y → ∀ i ∈ y.bd.objs, inside (V.objsL args) h.length i = true := by
    intro o y hy i hi
    rw [keepOnly_get] at hy
    simp only [Option.map_eq_some_iff] at hy
    obtain ⟨z, hz, rfl⟩ := hy
    split at hi
    · rename_i hcn
      exact hin i (hcl o (by simpa using hcn) z hz i hi)
    · simp [Bd.objs] at hi
  have c1 : closedIn (V.objsL args) h.length (keepOnly (V.objsL args) h) = true := closedIn_of fun o y hy _ => hk o y hy
  have c2 : closedIn (V.objsL args) h.length ((keepOnly (V.objsL args) h).set a x) = true := by
    refine closedIn_of fun o y hy _ => ?_
    by_cases e : o = a
    · subst e
      rw [List.getElem?_set_self (by rw [keepOnly_length]; exact hal)] at hy
      cases hy
      rw [hx]
      intro i hi
      cases hi
    · rw [List.getElem?_set_ne (Ne.symm e)] at hy
      exact hk o y hy
  unfold frameC
  rw [if_neg hy]
  simp only [hm, c1, hc, c2, hv, List.length_set, keepOnly_length, List.all_nil, Nat.le_refl, decide_true, Bool.and_self, ↓reduceIte]
  congr 2
  apply List.ext_getElem?
  intro o
  rw [mergeH_get]
  by_cases e : o = a
  · subst e
    rw [List.getElem?_set_self (by rw [keepOnly_length]; exact hal), List.getElem?_set_self hal]
    simp [hin o ha]
  · rw [List.getElem?_set_ne (Ne.symm e), List.getElem?_set_ne (Ne.symm e), keepOnly_get]
    cases hh : h[o]? with
    | none => rfl
    | some y =>
      simp only [Option.map_some]
      have hlt : o < h.length := (List.getElem?_eq_some_iff.1 hh).1
      have hd : h.getD o y = y := by simp [List.getD_eq_getElem?_getD, hh]
      by_cases hc : (V.objsL args).contains o = true
      · have hc' : o ∈ V.objsL args := by simpa using hc
        rw [if_pos hc, if_pos (hin o hc')]
      · simp only [hc, Bool.false_eq_true, ↓reduceIte, inside, Bool.false_or, decide_eq_true_eq]
        rw [if_neg (by omega)]
        simp [List.getD_eq_getElem?_getD, hh]

theorem keepOnly_in {R : List Nat} {h : Heap} {o : Nat} (ho : o ∈ R) : (keepOnly R h)[o]? = h[o]? := by
  rw [keepOnly_get]
  have : R.contains o = true := by simpa using ho
  simp only [this, ↓reduceIte]
  cases h[o]? <;> rfl

theorem objsL_ints (k : IntKind) : ∀ (l : List Int), V.objsL (l.map (V.int k)) = []
  | [] => rfl
  | x :: l => by
    show V.objs (V.int k x) ++ V.objsL (l.map (V.int k)) = []
    rw [objsL_ints k l]
    rfl

/-- One cell out of a row of numbers. -/
theorem ints_at (k : IntKind) {l : List Int} {i : Nat} (h : i < l.length) : ((l.map (V.int k)).drop i).take 1 = [.int k (l.getD i 0)] := by
  rw [← List.map_drop, List.drop_eq_getElem_cons h, List.map_cons, List.take_succ_cons, List.take_zero]
  simp [List.getD_eq_getElem?_getD, h]

end Go.Am
