/- The walk's words for slices that came in, and for rows of elements in an array. -/
import Derived.Test.YthfpjffgagacmaaAw3
set_option linter.unusedVariables false
set_option linter.unusedSimpArgs false
namespace Go.Am

/-- A slice that nobody writes: its elements' cells. -/
structure IsL (l : V) (s : Nat) (cs : List (List V)) : Prop where
  free : l.free = true
  len : lenA l = some cs.length
  nstr : ∀ b, l ≠ .str b
  at_ : ∀ i : Nat, iaddrSA s l (.int .i64 i) = match cs[i]? with | some c => some (.ret (.iptr c 0)) | none => none
  first : ∀ get n, n ≤ cs.length → firstA get s n l = some (cs.take n).flatten

theorem isL_nils (s : Nat) : IsL .nils s [] := ⟨rfl, rfl, by simp, fun i => rfl, fun get n hn => by simp at hn; subst hn; rfl⟩

theorem isL_sl {L : List V} {s : Nat} {c : Option Nat} {cs : List (List V)} (hf : V.freeL L = true) (hc : L.map V.cells = cs) : IsL (.sl L s c) s cs := by
  subst hc
  refine ⟨hf, by simp [lenA], by simp, fun i => ?_, fun get n hn => ?_⟩
  · simp only [iaddrSA, ↓reduceIte, indexedI, Int.natCast_nonneg, Int.ofNat_lt, Int.toNat_natCast, List.getElem?_map]
    by_cases h : i < L.length
    · simp [h]
    · simp [h]
  · simp only [List.length_map] at hn
    simp only [firstA, ↓reduceIte, if_pos hn]
    congr 1
    rw [← List.map_take, List.flatMap_def]

theorem flat_length {s : Nat} : ∀ {cs : List (List V)}, (∀ c ∈ cs, c.length = s) → cs.flatten.length = cs.length * s
  | [], _ => by simp
  | c :: cs, h => by
    rw [List.flatten_cons, List.length_append, h c (by simp), flat_length (fun c hc => h c (by simp [hc])), List.length_cons, Nat.add_mul, Nat.one_mul, Nat.add_comm]

theorem flat_at {s : Nat} : ∀ {cs : List (List V)} {rest : List V} {i : Nat} {c : List V}, (∀ c ∈ cs, c.length = s) → cs[i]? = some c → ((cs.flatten ++ rest).drop (i * s)).take s = c
  | [], rest, i, c, _, h => by simp at h
  | c0 :: cs, rest, 0, c, hs, h => by
    simp only [List.getElem?_cons_zero, Option.some.injEq] at h
    subst h
    have := hs c0 (by simp)
    rw [Nat.zero_mul, List.drop_zero, List.flatten_cons, List.append_assoc, List.take_append_of_le_length (by omega), List.take_of_length_le (by omega)]
  | c0 :: cs, rest, i + 1, c, hs, h => by
    have h0 := hs c0 (by simp)
    rw [List.getElem?_cons_succ] at h
    rw [List.flatten_cons, List.append_assoc, show (i + 1) * s = c0.length + i * s by rw [h0, Nat.add_mul, Nat.one_mul, Nat.add_comm], List.drop_append, List.drop_eq_nil_of_le (by omega), List.nil_append]
    rw [show c0.length + i * s - c0.length = i * s by omega]
    exact flat_at (fun c hc => hs c (by simp [hc])) h

theorem flat_take {s : Nat} : ∀ {cs : List (List V)} {rest : List V} {n : Nat}, (∀ c ∈ cs, c.length = s) → n ≤ cs.length → (cs.flatten ++ rest).take (n * s) = (cs.take n).flatten
  | cs, rest, 0, _, _ => by simp
  | [], rest, n + 1, _, h => by simp at h
  | c0 :: cs, rest, n + 1, hs, h => by
    have h0 := hs c0 (by simp)
    rw [List.flatten_cons, List.append_assoc, show (n + 1) * s = c0.length + n * s by rw [h0, Nat.add_mul, Nat.one_mul, Nat.add_comm], List.take_append, List.take_of_length_le (by omega), show c0.length + n * s - c0.length = n * s by omega]
    rw [flat_take (fun c hc => hs c (by simp [hc])) (by simpa using h)]
    rfl

/-- Two values of one plain type with the same cells. -/
def okCells : List CK → List V → Bool
  | [], [] => true
  | .b :: ks, .bool _ :: cs => okCells ks cs
  | .i k :: ks, .int k' _ :: cs => if k' = k then okCells ks cs else false
  | .s :: ks, .str _ :: cs => okCells ks cs
  | _, _ => false

theorem eqCells_self : ∀ {ks : List CK} {cs : List V}, okCells ks cs = true → eqCells ks cs cs = some true
  | [], [], _ => rfl
  | .b :: ks, .bool _ :: cs, h => by simp only [eqCells, eqCell, eqCells_self (ks := ks) (cs := cs) h, beq_self_eq_true, Bool.and_self]
  | .i k :: ks, .int k' _ :: cs, h => by
    simp only [okCells] at h
    split at h
    · rename_i hk
      simp only [eqCells, eqCell, hk, ↓reduceIte, eqCells_self (ks := ks) (cs := cs) h, beq_self_eq_true, Bool.and_self]
    · cases h
  | .s :: ks, .str _ :: cs, h => by simp only [eqCells, eqCell, eqCells_self (ks := ks) (cs := cs) h, beq_self_eq_true, Bool.and_self]
  | [], _ :: _, h => by simp [okCells] at h
  | .b :: _, [], h => by simp [okCells] at h
  | .i _ :: _, [], h => by simp [okCells] at h
  | .s :: _, [], h => by simp [okCells] at h

theorem okCells_ints {k : IntKind} : ∀ {n : Nat} {l : List Int}, l.length = n → okCells (List.replicate n (.i k)) (l.map (V.int k)) = true
  | 0, [], _ => rfl
  | n + 1, x :: l, h => by
    simp only [List.replicate, List.map_cons, okCells, ↓reduceIte]
    exact okCells_ints (by simpa using h)

theorem mapM_shut_id {get : Nat → Option Ob} {d : Nat} {L : List V} (h : V.freeL L = true) : L.mapM (V.shut get (d + 1)) = some L := by
  refine mapM_free fun c hc => ?_
  induction L with
  | nil => cases hc
  | cons x L ih =>
    simp only [freeL_cons, Bool.and_eq_true] at h
    rcases List.mem_cons.1 hc with rfl | hc
    · exact h.1
    · exact ih h.2 hc

theorem allOne_ints (k : IntKind) (l : List Int) : (l.map (V.int k)).all V.oneCell = true := by
  induction l with
  | nil => rfl
  | cons x l ih => simp [V.oneCell, ih]

theorem lenA_sl {L : List V} {s : Nat} {c : Option Nat} : lenA (.sl L s c) = some L.length := rfl
theorem lenA_view {o v f n s : Nat} {c : Option Nat} : lenA (.view o v f n s c) = some n := rfl
theorem lenA_nils : lenA .nils = some 0 := rfl
theorem firstA_sl {get : Nat → Option Ob} {L : List V} {s : Nat} {c : Option Nat} : firstA get s L.length (.sl L s c) = some (L.flatMap V.cells) := by
  simp [firstA]
theorem firstA_sl1 {get : Nat → Option Ob} {x : V} {s : Nat} {c : Option Nat} : firstA get s 1 (.sl [x] s c) = some x.cells := by
  simp [firstA]

end Go.Am
