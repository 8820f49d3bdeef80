/- Operation by operation: comparisons of values of a plain type; slices that are made; strings and bytes; nil. -/
import Derived.Test.YtifbkofianklaaaAm10
set_option linter.unusedVariables false
set_option linter.unusedSimpArgs false
namespace Go.Am
variable {P : Program}

/-- The kinds of a struct's fields, one behind the other. -/
def kindsF (rec : TypeId → Option (List CK)) (size : TypeId → Nat) : List Field → Nat → Option (List CK)
  | [], _ => some []
  | f :: fs, off =>
    if f.offset = off ∧ f.name ≠ "_" then
      match rec f.type with
      | some ks => if 0 < ks.length ∧ ks.length = size f.type then (kindsF rec size fs (off + ks.length)).map (ks ++ ·) else none
      | none => none
    else none

/-- The kinds of a plain type's cells. -/
def kindsOf (P : Program) : Nat → TypeId → Option (List CK)
  | 0, _ => none
  | d + 1, t =>
    match P.underlying t with
    | some .bool => some [.b]
    | some (.int k) => some [.i k]
    | some .string => some [.s]
    | some (.struct fs) => if P.stoodInHeld t then none else kindsF (kindsOf P d) P.cellsOf fs.toList 0
    | some (.array n e) =>
      match kindsOf P d e with
      | some ks => if 0 < ks.length ∧ ks.length = P.cellsOf e ∧ (P.info? e).isSome then some (List.replicate n ks).flatten else none
      | none => none
    | _ => none

def CK.desc : CK → TypeDesc
  | .b => .bool
  | .i k => .int k
  | .s => .string

theorem eqCell_rel {g : G} {w : World} {k : CK} {a b : V} {x y : Value} (ha : VRel g w a x) (hb : VRel g w b y) {r : Bool} (h : eqCell k a b = some r) (t : TypeId) (d : Nat)
    (ht : P.underlying t = some k.desc) (w' : World) : (Op.equalIn (d + 1) t x y).run P w' = .ok r w' ∧ x.cells = #[x] ∧ y.cells = #[y] := by
  cases k with
  | b =>
    cases ha <;> cases hb <;> simp only [eqCell, reduceCtorEq, Option.some.injEq] at h
    subst h
    exact ⟨run_equalIn_bool (P := P) w' d t _ _ ht, rfl, rfl⟩
  | i k =>
    cases ha <;> cases hb <;> simp only [eqCell, reduceCtorEq] at h
    split at h
    case isFalse => cases h
    split at h
    case isFalse => cases h
    rename_i h1 h2
    subst h1; subst h2
    cases h
    exact ⟨run_equalIn_int (w := w') d t _ _ _ _ ht, rfl, rfl⟩
  | s =>
    cases ha <;> cases hb <;> simp only [eqCell, reduceCtorEq, Option.some.injEq] at h
    subst h
    have := run_equalIn_string (P := P) (w := w') d t ⟨⟨by assumption⟩⟩ ⟨⟨by assumption⟩⟩ ht
    refine ⟨?_, rfl, rfl⟩
    rename_i l m
    have := run_equalIn_string (P := P) (w := w') d t ⟨⟨l⟩⟩ ⟨⟨m⟩⟩ ht
    simpa using this

theorem eqCells_len : ∀ (ks : List CK) (as bs : List V) (r : Bool), eqCells ks as bs = some r → as.length = ks.length ∧ bs.length = ks.length
  | [], [], [], _, _ => ⟨rfl, rfl⟩
  | k :: ks, a :: as, b :: bs, r, h => by
    simp only [eqCells] at h
    split at h
    · rename_i x y h1 h2
      obtain ⟨e1, e2⟩ := eqCells_len ks as bs _ h2
      exact ⟨by simp [e1], by simp [e2]⟩
    · cases h
  | [], [], _ :: _, _, h => by simp [eqCells] at h
  | [], _ :: _, _, _, h => by simp [eqCells] at h
  | _ :: _, [], _, _, h => by simp [eqCells] at h
  | _ :: _, _ :: _, [], _, h => by simp [eqCells] at h

theorem eqCells_split : ∀ (k1 k2 : List CK) (as bs : List V) (r : Bool), eqCells (k1 ++ k2) as bs = some r →
    ∃ r1 r2, eqCells k1 (as.take k1.length) (bs.take k1.length) = some r1 ∧ eqCells k2 (as.drop k1.length) (bs.drop k1.length) = some r2 ∧ r = (r1 && r2)
  | [], k2, as, bs, r, h => ⟨true, r, by simp [eqCells], by simpa using h, by simp⟩
  | k :: k1, k2, [], bs, r, h => by cases bs <;> simp [eqCells] at h
  | k :: k1, k2, a :: as, [], r, h => by simp [eqCells] at h
  | k :: k1, k2, a :: as, b :: bs, r, h => by
    simp only [List.cons_append, eqCells] at h
    split at h
    · rename_i x y h1 h2
      cases h
      obtain ⟨r1, r2, e1, e2, rfl⟩ := eqCells_split k1 k2 as bs _ h2
      exact ⟨x && r1, r2, by simp [eqCells, h1, e1], by simpa using e2, by simp [Bool.and_assoc]⟩
    · cases h

/-- A value of a plain type, and its cells. -/
def Is (P : Program) (g : G) (w : World) (t : TypeId) (as : List V) (x : Value) : Prop :=
  match P.underlying t with
  | some (.struct _) | some (.array _ _) => ∃ cs : Array Value, x = .agg cs ∧ Cells g w as cs.toList
  | _ => ∃ a, as = [a] ∧ VRel g w a x

theorem Cells.sub {g : G} {w : World} {as : List V} {xs : List Value} (h : Cells g w as xs) (off n : Nat) : Cells g w ((as.drop off).take n) ((xs.drop off).take n) := by
  refine ⟨by simp [h.1], fun i c x hc hx => ?_⟩
  rw [List.getElem?_take] at hc hx
  split at hc
  · rename_i hlt
    rw [if_pos hlt, List.getElem?_drop] at hx
    rw [List.getElem?_drop] at hc
    exact h.2 _ _ _ hc hx
  · cases hc

theorem kinds_scalar {d : Nat} {t : TypeId} {ks : List CK} (hk : kindsOf P d t = some ks) :
    (∃ n e, P.underlying t = some (.array n e)) ∨ (∃ fs, P.underlying t = some (.struct fs)) ∨ ∃ k : CK, P.underlying t = some k.desc ∧ ks = [k] := by
  cases d with
  | zero => simp [kindsOf] at hk
  | succ d =>
    unfold kindsOf at hk
    split at hk
    · rename_i hu; cases hk; exact .inr (.inr ⟨.b, hu, rfl⟩)
    · rename_i k hu; cases hk; exact .inr (.inr ⟨.i k, hu, rfl⟩)
    · rename_i hu; cases hk; exact .inr (.inr ⟨.s, hu, rfl⟩)
    · rename_i fs hu; exact .inr (.inl ⟨fs, hu⟩)
    · rename_i n e hu; exact .inl ⟨n, e, hu⟩
    · cases hk

theorem part_is {g : G} {w : World} {t : TypeId} {ks : List CK} {d : Nat} (hk : kindsOf P d t = some ks) (hl : ks.length = P.cellsOf t) {as : List V} {xs : Array Value} (hc : Cells g w as xs.toList) {off : Nat} (hle : off + ks.length ≤ as.length) :
    ∃ x, (∀ w, (part t xs off).run P w = .ok x w) ∧ Is P g w t ((as.drop off).take ks.length) x := by
  have agg : (∃ n e, P.underlying t = some (.array n e)) ∨ (∃ fs, P.underlying t = some (.struct fs)) → ∃ x, (∀ w, (part t xs off).run P w = .ok x w) ∧ Is P g w t ((as.drop off).take ks.length) x := by
    intro hu
    have hi : ∃ i, P.info? t = some i := by rcases hu with ⟨n, e, hu⟩ | ⟨fs, hu⟩ <;> exact info_of_underlying hu
    obtain ⟨i, hi⟩ := hi
    have he : (xs.extract off (off + P.cellsOf t)).toList = (xs.toList.drop off).take ks.length := by
      rw [Array.toList_extract, hl]
      simp [List.extract]
    refine ⟨.agg (xs.extract off (off + P.cellsOf t)), fun w => ?_, ?_⟩
    · rcases hu with ⟨n, e, hu⟩ | ⟨fs, hu⟩ <;> simp [part, isAgg, run_underlying hu, run_sizeOf w hi]
    · rcases hu with ⟨n, e, hu⟩ | ⟨fs, hu⟩ <;> (simp only [Is, hu]; exact ⟨_, rfl, by rw [he]; exact hc.sub _ _⟩)
  rcases kinds_scalar hk with hu | hu | ⟨k, hu, rfl⟩
  · exact agg (.inl hu)
  · exact agg (.inr hu)
  · have hlt : off < as.length := by simp only [List.length_cons, List.length_nil] at hle; omega
    have hlx : off < xs.toList.length := by have := hc.1; omega
    have hlx' : off < xs.size := by simpa using hlx
    have hr := hc.2 off _ _ (List.getElem?_eq_getElem hlt) (List.getElem?_eq_getElem hlx)
    refine ⟨xs[off], fun w => ?_, ?_⟩
    · cases k <;> simp [CK.desc] at hu <;> simp [part, isAgg, run_underlying hu, hlx']
    · have h1 : (as.drop off).take [k].length = [as[off]] := by
        simp only [List.length_cons, List.length_nil, Nat.zero_add, List.take_one, List.head?_drop, List.getElem?_eq_getElem hlt]
        rfl
      rw [h1]
      have hr' : VRel g w as[off] xs[off] := by simpa using hr
      cases k <;> simp only [CK.desc] at hu <;> simp only [Is, hu] <;> exact ⟨_, rfl, hr'⟩

theorem eq_rel (P : Program) (g : G) (w : World) (dd : Nat) : ∀ (d : Nat) (t : TypeId) (ks : List CK) (as bs : List V) (x y : Value) (r : Bool), kindsOf P d t = some ks → Is P g w t as x → Is P g w t bs y → eqCells ks as bs = some r →
    ∀ w', (Op.equalIn (dd + d) t x y).run P w' = .ok r w'
  | 0, t, ks, as, bs, x, y, r, hk, _, _, _ => by simp [kindsOf] at hk
  | d + 1, t, ks, as, bs, x, y, r, hk, hx, hy, he => by
    intro w'
    have IH := eq_rel P g w dd d
    have scalar : ∀ k : CK, P.underlying t = some k.desc → ks = [k] → (Op.equalIn (dd + (d + 1)) t x y).run P w' = .ok r w' := by
      intro k hu hks
      subst hks
      have hx' : ∃ a, as = [a] ∧ VRel g w a x := by cases k <;> simp only [CK.desc] at hu <;> simpa only [Is, hu] using hx
      have hy' : ∃ a, bs = [a] ∧ VRel g w a y := by cases k <;> simp only [CK.desc] at hu <;> simpa only [Is, hu] using hy
      obtain ⟨a, rfl, ha⟩ := hx'
      obtain ⟨b, rfl, hb⟩ := hy'
      simp only [eqCells] at he
      split at he
      · rename_i r1 r2 h1 h2
        cases h2
        simp only [Bool.and_true, Option.some.injEq] at he
        subst he
        exact (eqCell_rel ha hb h1 t (dd + d) hu w').1
      · cases he
    unfold kindsOf at hk
    split at hk
    · rename_i hu; cases hk; exact scalar .b hu rfl
    · rename_i k hu; cases hk; exact scalar (.i k) hu rfl
    · rename_i hu; cases hk; exact scalar .s hu rfl
    · rename_i fs hu
      split at hk
      · cases hk
      rename_i hst
      simp only [Is, hu] at hx hy
      obtain ⟨xs, rfl, hxs⟩ := hx
      obtain ⟨ys, rfl, hys⟩ := hy
      have hfs : P.fieldsOf t = fs := by simp [Program.fieldsOf, hu]
      rw [show dd + (d + 1) = (dd + d) + 1 by omega, run_equalIn_struct w' (dd + d) t xs ys (by rw [hfs]; exact hu) (by simpa using hst), hfs]
      have key : ∀ (l : List Field) (off : Nat) (ks : List CK) (as' bs' : List V) (r : Bool), kindsF (kindsOf P d) P.cellsOf l off = some ks → as' = as.drop off → bs' = bs.drop off → eqCells ks as' bs' = some r →
          (Op.eqFields (dd + d) xs ys l).run P w' = .ok r w' := by
        intro l
        induction l with
        | nil =>
          intro off ks as' bs' r hk h1 h2 he
          simp only [kindsF, Option.some.injEq] at hk
          subst hk
          obtain ⟨e1, e2⟩ := eqCells_len _ _ _ _ he
          have e1' : as' = [] := List.length_eq_zero_iff.1 e1
          have e2' : bs' = [] := List.length_eq_zero_iff.1 e2
          rw [e1', e2'] at he
          simp only [eqCells, Option.some.injEq] at he
          subst he
          simp [Op.eqFields]
        | cons f l ih =>
          intro off ks as' bs' r hk h1 h2 he
          simp only [kindsF] at hk
          split at hk
          case isFalse => cases hk
          rename_i hoff
          split at hk
          case h_2 => cases hk
          rename_i k1 hk1
          split at hk
          case isFalse => cases hk
          rename_i hlen
          simp only [Option.map_eq_some_iff] at hk
          obtain ⟨k2, hk2, rfl⟩ := hk
          obtain ⟨r1, r2, e1, e2, rfl⟩ := eqCells_split _ _ _ _ _ he
          obtain ⟨l1, l2⟩ := eqCells_len _ _ _ _ he
          rw [h1] at l1
          rw [h2] at l2
          simp only [List.length_append, List.length_drop] at l1 l2
          obtain ⟨x1, p1, i1⟩ := part_is (g := g) (w := w) hk1 hlen.2 hxs (off := f.offset) (by omega)
          obtain ⟨y1, p2, i2⟩ := part_is (g := g) (w := w) hk1 hlen.2 hys (off := f.offset) (by omega)
          rw [h1] at e1 e2
          rw [h2] at e1 e2
          have q1 := IH f.type k1 _ _ x1 y1 r1 hk1 i1 i2 (by rw [hoff.1]; exact e1) w'
          have q2 := ih (off + k1.length) k2 _ _ r2 hk2 rfl rfl (by simpa [List.drop_drop] using e2)
          have hn : f.name ≠ "_" := hoff.2
          simp only [Op.eqFields, hn, ne_eq, not_false_eq_true, if_true, Sem.run_bind, p1, p2, q1, Result.andThen_ok]
          cases r1
          · simp
          · simpa using q2
      exact key fs.toList 0 ks as bs r hk (by simp) (by simp) he
    · rename_i n e hu
      split at hk
      case h_2 => cases hk
      rename_i k1 hk1
      split at hk
      case isFalse => cases hk
      rename_i hlen
      cases hk
      simp only [Is, hu] at hx hy
      obtain ⟨xs, rfl, hxs⟩ := hx
      obtain ⟨ys, rfl, hys⟩ := hy
      obtain ⟨i, hi⟩ := Option.isSome_iff_exists.1 hlen.2.2
      rw [show dd + (d + 1) = (dd + d) + 1 by omega, run_equalIn_array w' (dd + d) xs ys hu hi]
      have key : ∀ (m i0 : Nat) (r : Bool), eqCells (List.replicate m k1).flatten (as.drop (i0 * P.cellsOf e)) (bs.drop (i0 * P.cellsOf e)) = some r →
          (Op.eqItems (dd + d) e (P.cellsOf e) xs ys (List.range' i0 m)).run P w' = .ok r w' := by
        intro m
        induction m with
        | zero =>
          intro i0 r he
          obtain ⟨e1, e2⟩ := eqCells_len _ _ _ _ he
          have e1' := List.length_eq_zero_iff.1 e1
          have e2' := List.length_eq_zero_iff.1 e2
          rw [e1', e2'] at he
          simp [eqCells] at he
          subst he
          simp [Op.eqItems]
        | succ m ih =>
          intro i0 r he
          rw [List.replicate_succ, List.flatten_cons] at he
          obtain ⟨r1, r2, e1, e2, rfl⟩ := eqCells_split _ _ _ _ _ he
          obtain ⟨l1, l2⟩ := eqCells_len _ _ _ _ he
          simp only [List.length_append, List.length_drop] at l1 l2
          have hz := hlen.1
          obtain ⟨x1, p1, i1⟩ := part_is (g := g) (w := w) hk1 hlen.2.1 hxs (off := i0 * P.cellsOf e) (by omega)
          obtain ⟨y1, p2, i2⟩ := part_is (g := g) (w := w) hk1 hlen.2.1 hys (off := i0 * P.cellsOf e) (by omega)
          have q1 := IH e k1 _ _ x1 y1 r1 hk1 i1 i2 e1 w'
          have q2 := ih (i0 + 1) r2 (by rw [Nat.add_mul, Nat.one_mul, ← hlen.2.1]; rw [← hlen.2.1] at e2; simpa [List.drop_drop] using e2)
          rw [List.range'_succ]
          simp only [Op.eqItems, Sem.run_bind, p1, p2, q1, Result.andThen_ok]
          cases r1
          · simp
          · simpa using q2
      have := key n 0 r (by simpa using he)
      rwa [List.range_eq_range']
    · cases hk

end Go.Am
