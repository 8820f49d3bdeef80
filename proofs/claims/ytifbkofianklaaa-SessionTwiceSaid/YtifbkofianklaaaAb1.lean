/- From a row's reading to the abstract machine's values: what came in, told by its type's shape. -/
import Derived.Test.YtifbkofianklaaaAw3
import Derived.Calls
import Derived.Carry
import Derived.ChangeShapes
import Derived.OpenShut
set_option linter.unusedVariables false
set_option linter.unusedSimpArgs false
namespace Go.Am
variable {P : Program}

/-- The shape of a type's cells. -/
inductive Sh where
  | int (k : IntKind)
  | bool
  | str
  | unit
  | pair (a b : Sh)
  | arr (n : Nat) (e : Sh)
  | sl (ag : Bool) (s : Nat) (e : Sh)
  deriving DecidableEq

/-- An element as a value. -/
def elemV (ag : Bool) (u : List V) : V := match ag with | true => .agg u | false => u.headD .junk

def InSh : Sh → List V → Prop
  | .int k, vs => ∃ n, vs = [.int k n] ∧ (Lit.int k n).wf = true
  | .bool, vs => ∃ b, vs = [.bool b]
  | .str, vs => ∃ s, vs = [.str s] ∧ s.length ≤ maxLen
  | .unit, vs => vs = []
  | .pair a b, vs => ∃ u v, vs = u ++ v ∧ InSh a u ∧ InSh b v
  | .arr n e, vs => ∃ us : List (List V), us.length = n ∧ vs = us.flatten ∧ ∀ u ∈ us, InSh e u
  | .sl ag s e, vs => vs = [.nils] ∨ ∃ (us : List (List V)) (c : Nat), vs = [.sl (us.map (elemV ag)) s (some c)] ∧ us.length ≤ c ∧ c ≤ maxLen ∧ ∀ u ∈ us, u.length = s ∧ InSh e u

def aggB (P : Program) (t : TypeId) : Bool := match P.underlying t with | some (.struct _) | some (.array _ _) => true | _ => false

/-- Do the fields lie one behind the other, from 'off' to the end? -/
def contig (P : Program) (tot : Nat) : Nat → List Field → Bool
  | off, [] => off == tot
  | off, f :: fs => f.offset == off && contig P tot (off + P.cellsOf f.type) fs

def shFields (g : TypeId → Option Sh) : List Field → Option Sh
  | [] => some .unit
  | f :: fs => match g f.type, shFields g fs with | some a, some b => some (.pair a b) | _, _ => none

/-- The shape of a type: numbers, strings, structs, arrays, and slices of such. -/
def shF (P : Program) : Nat → TypeId → Option Sh
  | 0, _ => none
  | m + 1, t =>
    match P.underlying t with
    | some .bool => some .bool
    | some (.int k) => some (.int k)
    | some .string => some .str
    | some (.struct fs) => if contig P (P.cellsOf t) 0 fs.toList then shFields (shF P m) fs.toList else none
    | some (.array n e) => if n * P.cellsOf e = P.cellsOf t then (shF P m e).map (.arr n) else none
    | some (.slice e) => if 0 < P.cellsOf e ∧ (aggB P e = true ∨ P.cellsOf e = 1) then (shF P m e).map (.sl (aggB P e) (P.cellsOf e)) else none
    | _ => none

def argG (P : Program) (w : World) : G := ⟨fun _ _ => none, fun b => b < w.heap.size, codesOf P⟩

section
variable {H : Type} {enc : TypeId × Value → H} {w : World} {sp : Nat → Bool} {held : Bool} {g : G}

theorem cells_one {v : V} {x : Value} (h : VRel g w v x) : Cells g w [v] [x] := by
  refine ⟨rfl, fun i c y h1 h2 => ?_⟩
  cases i with
  | zero => simp at h1 h2; subst h1; subst h2; exact h
  | succ i => simp at h1

theorem cells_app {u v : List V} {xs ys : List Value} (h1 : Cells g w u xs) (h2 : Cells g w v ys) : Cells g w (u ++ v) (xs ++ ys) := cells_append h1 h2

theorem contig_le {P : Program} {tot : Nat} : ∀ {fs : List Field} {off : Nat}, contig P tot off fs = true → off ≤ tot
  | [], off, h => by simp only [contig, beq_iff_eq] at h; omega
  | f :: fs, off, h => by simp only [contig, Bool.and_eq_true, beq_iff_eq] at h; have := contig_le h.2; omega

theorem fields_in {m : Nat} {cs : List Value} {R : TypeId → List Value → Prop} (ih : ∀ (t : TypeId) (S : Sh) (cs : List Value), shF P m t = some S → R t cs → ∃ vs, Cells g w vs cs ∧ InSh S vs) :
    ∀ (fs : List Field) (off : Nat) (S : Sh), contig P cs.length off fs = true → shFields (shF P m) fs = some S →
      (∀ f ∈ fs, R f.type ((cs.drop f.offset).take (P.cellsOf f.type))) → ∃ vs, Cells g w vs (cs.drop off) ∧ InSh S vs
  | [], off, S, hc, hS, hx => by
    simp only [contig, beq_iff_eq] at hc
    simp only [shFields, Option.some.injEq] at hS
    subst hS
    exact ⟨[], by subst hc; simp [Cells], rfl⟩
  | f :: fs, off, S, hc, hS, hx => by
    simp only [contig, Bool.and_eq_true, beq_iff_eq] at hc
    obtain ⟨rfl, hc⟩ := hc
    simp only [shFields] at hS
    split at hS
    case h_2 => cases hS
    rename_i a b ha hb
    cases hS
    obtain ⟨u, hu, hua⟩ := ih f.type a _ ha (hx f (by simp))
    obtain ⟨v, hv, hvb⟩ := fields_in ih fs (f.offset + P.cellsOf f.type) b hc hb (fun f hf => hx f (by simp [hf]))
    refine ⟨u ++ v, ?_, u, v, rfl, hua, hvb⟩
    have := cells_app hu hv
    rwa [← List.drop_drop, List.take_append_drop] at this

theorem elems_in {S : Sh} {k : Nat} {cs : List Value} {R : List Value → Prop} (ih : ∀ (cs : List Value), R cs → ∃ vs, Cells g w vs cs ∧ InSh S vs) :
    ∀ (n : Nat), (∀ i, i < n → R ((cs.drop (i * k)).take k)) → ∃ us : List (List V), us.length = n ∧ Cells g w us.flatten (cs.take (n * k)) ∧ (∀ u ∈ us, InSh S u)
  | 0, hx => ⟨[], rfl, by simp [Cells], by simp⟩
  | n + 1, hx => by
    obtain ⟨us, e1, e2, e3⟩ := elems_in ih n (fun i hi => hx i (by omega))
    obtain ⟨u, hu, hus⟩ := ih _ (hx n (by omega))
    refine ⟨us ++ [u], by simp [e1], ?_, ?_⟩
    · have := cells_app e2 hu
      rw [List.flatten_append]
      simp only [List.flatten_cons, List.flatten_nil, List.append_nil]
      rw [Nat.add_mul, Nat.one_mul, List.take_add]
      exact this
    · intro v hv
      simp only [List.mem_append, List.mem_singleton] at hv
      rcases hv with hv | rfl
      · exact e3 v hv
      · exact hus

theorem spot_of {P : Program} {w : World} {a : Addr} {n : Nat} {cs : List Value} (hn : 0 < n) (h : w.cells? 0 a n = some cs) : a.spot = none ∧ a.block < w.heap.size := by
  simp only [World.cells?, Nat.zero_le, ↓reduceIte] at h
  have h0 := mapM_some_get h 0 0 (by simp [hn])
  have hl : cs.length = n := by simpa using mapM_some_length h
  rw [List.getElem?_eq_getElem (by omega)] at h0
  have ha : a.add 0 = a := by unfold Addr.add; rw [if_pos rfl]
  rw [ha] at h0
  unfold World.cell? at h0
  split at h0
  · rename_i hb
    refine ⟨?_, ?_⟩
    · split at h0
      · cases h0
      · rename_i hs
        simpa using hs
    · rcases Nat.lt_or_ge a.block w.heap.size with h | h
      · exact h
      · rw [Array.getElem?_eq_none h] at hb; cases hb
  · cases h0

theorem sl_in {m : Nat} {t e : TypeId} {S' : Sh} (hsp : ∀ b, sp b = true) (ih : ∀ (n : Nat) (cs : List Value) (x : DataW H × List MemPlace), DataW.trod enc P w 0 sp held n e cs = some x → ∃ vs, Cells (argG P w) w vs cs ∧ InSh S' vs)
    (hu : P.underlying t = some (.slice e)) (hpos : 0 < P.cellsOf e) (hone : aggB P e = true ∨ P.cellsOf e = 1) (hS' : shF P m e = some S') {fuel : Nat} {cs : List Value} {x : DataW H × List MemPlace} (hd : DataW.trod enc P w 0 sp held fuel t cs = some x) :
    ∃ vs, Cells (argG P w) w vs cs ∧ InSh (.sl (aggB P e) (P.cellsOf e) S') vs := by
  rcases DataW.trod_slice hu hd with ⟨h1, -⟩ | ⟨a, len, cap, elems, rest, n, rfl, h1, -, -, hlc, hcm, hel, hx, hrest, -⟩
  · cases h1
    exact ⟨[.nils], cells_one .nils, .inl rfl⟩
  · cases h1
    rcases Nat.eq_zero_or_pos cap with h0 | hcap
    · subst h0
      have hl0 : len = 0 := by omega
      subst hl0
      exact ⟨[.sl [] (P.cellsOf e) (some 0)], cells_one (.sl0 _ _ a (fun k hk => by cases hk; rfl)), .inr ⟨[], 0, rfl, Nat.le_refl _, Nat.zero_le _, fun u hu => by cases hu⟩⟩
    have hhas : a.spot = none ∧ a.block < w.heap.size := by
      rcases Nat.eq_zero_or_pos len with h0 | hlen
      · subst h0
        obtain ⟨hr1, hr2⟩ := hrest (hsp _)
        have h1 := hr2 0 (by omega)
        rw [List.getElem?_eq_getElem (by omega)] at h1
        simp only [Option.bind_eq_some_iff] at h1
        obtain ⟨cs, h2, -⟩ := h1
        rw [show (0 + 0) * P.cellsOf e = 0 by simp, show a.add 0 = a by unfold Addr.add; rw [if_pos rfl]] at h2
        exact spot_of (P := P) hpos h2
      · have h1 := hx 0 hlen
        rw [List.getElem?_eq_getElem (by omega)] at h1
        simp only [Option.bind_eq_some_iff] at h1
        obtain ⟨cs, h2, -⟩ := h1
        rw [show 0 * P.cellsOf e = 0 by simp, show a.add 0 = a by unfold Addr.add; rw [if_pos rfl]] at h2
        exact spot_of (P := P) hpos h2
    obtain ⟨hspot, hlt⟩ := hhas
    obtain ⟨ab, ao, asp⟩ := a
    simp only at hspot hlt
    subst hspot
    -- every element's cells
    have hel : ∀ i, i < len → ∃ cs us, (at_ ab ao).add (i * P.cellsOf e) = at_ ab (ao + i * P.cellsOf e) ∧ w.cells? 0 (at_ ab (ao + i * P.cellsOf e)) (P.cellsOf e) = some cs ∧ Cells (argG P w) w us cs ∧ InSh S' us := by
      intro i hi
      have h1 := hx i hi
      rw [List.getElem?_eq_getElem (by omega)] at h1
      simp only [Option.bind_eq_some_iff] at h1
      obtain ⟨cs, h2, h3⟩ := h1
      obtain ⟨us, h4, h5⟩ := ih n cs _ h3
      rw [show (⟨ab, ao, none⟩ : Addr) = at_ ab ao from rfl, add_at] at h2
      exact ⟨cs, us, add_at _ _ _, h2, h4, h5⟩
    have hcell? : ∀ i cs, w.cells? 0 (at_ ab (ao + i * P.cellsOf e)) (P.cellsOf e) = some cs → cs.length = P.cellsOf e ∧ ∀ j, j < P.cellsOf e → w.cell? (at_ ab (ao + (i * P.cellsOf e + j))) = cs[j]? := by
      intro i cs h
      simp only [World.cells?, Nat.zero_le, ↓reduceIte] at h
      have hl : cs.length = P.cellsOf e := by simpa using mapM_some_length h
      refine ⟨hl, fun j hj => ?_⟩
      have := mapM_some_get h j j (by simp [hj])
      rw [add_at, Nat.add_assoc] at this
      exact this
    have hel' : ∀ i, ∃ p : List Value × List V, i < len → w.cells? 0 (at_ ab (ao + i * P.cellsOf e)) (P.cellsOf e) = some p.1 ∧ Cells (argG P w) w p.2 p.1 ∧ InSh S' p.2 := fun i => by
      by_cases hi : i < len
      · obtain ⟨cs, us, -, h2, h3, h4⟩ := hel i hi
        exact ⟨(cs, us), fun _ => ⟨h2, h3, h4⟩⟩
      · exact ⟨([], []), fun h => absurd h hi⟩
    obtain ⟨f, hf⟩ := Classical.axiomOfChoice hel'
    obtain ⟨cs, hcs'⟩ : ∃ cs : Nat → List Value, cs = fun i => (f i).1 := ⟨_, rfl⟩
    obtain ⟨us, hus'⟩ : ∃ us : Nat → List V, us = fun i => (f i).2 := ⟨_, rfl⟩
    have h2 : ∀ i, i < len → w.cells? 0 (at_ ab (ao + i * P.cellsOf e)) (P.cellsOf e) = some (cs i) := fun i hi => by rw [hcs']; exact (hf i hi).1
    have h3 : ∀ i, i < len → Cells (argG P w) w (us i) (cs i) := fun i hi => by rw [hcs', hus']; exact (hf i hi).2.1
    have h4 : ∀ i, i < len → InSh S' (us i) := fun i hi => by rw [hus']; exact (hf i hi).2.2
    refine ⟨[.sl ((List.range len).map fun i => elemV (aggB P e) (us i)) (P.cellsOf e) (some cap)], ?_, .inr ⟨(List.range len).map us, cap, ?_, by simpa using hlc, hcm, ?_⟩⟩
    · have hus : ∀ i, i < len → (us i).length = P.cellsOf e := fun i hi => by
        have := (h3 i hi).1
        have := (hcell? i _ (h2 i hi)).1
        omega
      have hcells : ∀ i, i < len → (elemV (aggB P e) (us i)).cells = us i := by
        intro i hi
        cases hag : aggB P e with
        | true => rfl
        | false =>
          have hk : P.cellsOf e = 1 := by rcases hone with h | h; rw [hag] at h; cases h; exact h
          have hl := hus i hi
          rw [hk] at hl
          obtain ⟨x, hx⟩ : ∃ x, us i = [x] := by
            cases hu : us i with
            | nil => rw [hu] at hl; cases hl
            | cons x l => cases l with | nil => exact ⟨x, rfl⟩ | cons y l => rw [hu] at hl; simp at hl
          rw [hx]
          have h5 := h4 i hi
          rw [hx] at h5
          have hone' : x.cells = [x] := by
            have : ∀ (S : Sh) (m : Nat) (t : TypeId), aggB P t = false → shF P m t = some S → InSh S [x] → x.cells = [x] := by
              intro S m t ht hS h
              cases m with
              | zero => simp [shF] at hS
              | succ m =>
                simp only [shF] at hS
                unfold aggB at ht
                split at hS <;> rename_i hu <;> simp only [hu] at ht
                · cases hS; obtain ⟨b, h⟩ := h; cases h; rfl
                · cases hS; obtain ⟨b, h, -⟩ := h; cases h; rfl
                · cases hS; obtain ⟨b, h, -⟩ := h; cases h; rfl
                · cases ht
                · cases ht
                · split at hS
                  case isFalse => cases hS
                  simp only [Option.map_eq_some_iff] at hS
                  obtain ⟨S', -, rfl⟩ := hS
                  rcases h with h | ⟨us, c, h, -⟩ <;> cases h <;> rfl
                · cases hS
            exact this S' m e hag hS' h5
          exact hone'
      have hlen : ((List.range len).map fun i => elemV (aggB P e) (us i)).length = len := by simp
      have key := VRel.sl (g := argG P w) (w := w) ((List.range len).map fun i => elemV (aggB P e) (us i)) (P.cellsOf e) (some cap) ab ao cap
        (fun j => (w.cell? (at_ ab (ao + j))).getD undef) (fun _ => hlt) (by rw [hlen]; exact hlc) (fun k hk => by cases hk; rfl) ?_ ?_ ?_
      · rw [hlen] at key; exact cells_one key
      · intro i x hx
        simp only [List.getElem?_map, Option.map_eq_some_iff] at hx
        obtain ⟨j, hj, rfl⟩ := hx
        have hj' : j < len := by
          have := List.mem_of_getElem? hj
          simpa using this
        rw [hcells j hj', hus j hj']
      · intro j hj
        rw [hlen] at hj
        have hq : j / P.cellsOf e < len := Nat.div_lt_of_lt_mul (by rw [Nat.mul_comm]; exact hj)
        obtain ⟨hl, hc⟩ := hcell? _ _ (h2 _ hq)
        have := hc (j % P.cellsOf e) (Nat.mod_lt _ hpos)
        rw [Nat.mul_comm, Nat.div_add_mod] at this
        rw [this, List.getElem?_eq_getElem (by rw [hl]; exact Nat.mod_lt _ hpos)]
        rfl
      · intro i x j y hx hy
        simp only [List.getElem?_map, Option.map_eq_some_iff] at hx
        obtain ⟨k, hk, rfl⟩ := hx
        have hk' : k < len := by
          have := List.mem_of_getElem? hk
          simpa using this
        have hki : k = i := by
          obtain ⟨h, e⟩ := List.getElem?_eq_some_iff.1 hk
          simpa using e.symm
        subst hki
        rw [hcells k hk'] at hy
        obtain ⟨hl, hc⟩ := hcell? _ _ (h2 _ hk')
        have hj' : j < P.cellsOf e := by
          rw [← hus k hk']
          exact (List.getElem?_eq_some_iff.1 hy).1
        rw [hc j hj', List.getElem?_eq_getElem (by rw [hl]; exact hj')]
        exact (h3 k hk').2 j y _ hy (List.getElem?_eq_getElem _)
    · rw [List.map_map]
      rfl
    · intro u hu'
      obtain ⟨i, hi, rfl⟩ := List.mem_map.1 hu'
      have hi' : i < len := by simpa using hi
      refine ⟨?_, h4 i hi'⟩
      have := (h3 i hi').1
      have := (hcell? i _ (h2 i hi')).1
      omega

theorem flat_in (hsp : ∀ b, sp b = true) : ∀ (m : Nat) (t : TypeId) (S : Sh) (fuel : Nat) (cs : List Value) (x : DataW H × List MemPlace), shF P m t = some S → DataW.trod enc P w 0 sp held fuel t cs = some x → ∃ vs, Cells (argG P w) w vs cs ∧ InSh S vs
  | 0, t, S, fuel, cs, x, hS, h => by simp [shF] at hS
  | m + 1, t, S, fuel, cs, x, hS, h => by
    simp only [shF] at hS
    split at hS <;> rename_i hu
    · cases hS
      obtain ⟨b, rfl, -⟩ := DataW.trod_bool hu h
      exact ⟨[.bool b], cells_one (.bool b), b, rfl⟩
    · rename_i k
      cases hS
      obtain ⟨n, rfl, -, hw⟩ := DataW.trod_int hu h
      exact ⟨[.int k n], cells_one (.int k n), n, rfl, hw⟩
    · cases hS
      obtain ⟨s, rfl, -, hs⟩ := DataW.trod_string hu h
      exact ⟨[.str s.data.toList], cells_one (.str s.data.toList), _, rfl, by simpa using hs⟩
    · rename_i fs
      split at hS
      case isFalse => cases hS
      rename_i hc
      obtain ⟨xs, n, rfl, -, hl, hxl, hx⟩ := DataW.trod_struct hu h
      rw [← hl] at hc
      have := fields_in (g := argG P w) (R := fun t cs => ∃ x, DataW.trod enc P w 0 sp held n t cs = some x) (fun t S cs hS ⟨x, hx⟩ => flat_in hsp m t S n cs x hS hx) fs.toList 0 S hc hS (fun f hf => by
        obtain ⟨i, hi, rfl⟩ := List.getElem_of_mem hf
        have hi' : i < fs.size := by simpa using hi
        refine ⟨xs[i], ?_⟩
        rw [hx i _ (by simp [hi']), List.getElem?_eq_getElem])
      simpa using this
    · rename_i n e
      split at hS
      case isFalse => cases hS
      rename_i hc
      simp only [Option.map_eq_some_iff] at hS
      obtain ⟨S', hS', rfl⟩ := hS
      obtain ⟨xs, k, rfl, -, hl, hxl, hx⟩ := DataW.trod_array hu h
      obtain ⟨us, h1, h2, h3⟩ := elems_in (g := argG P w) (w := w) (k := P.cellsOf e) (cs := cs) (R := fun cs => ∃ x, DataW.trod enc P w 0 sp held k e cs = some x) (fun cs ⟨x, hx⟩ => flat_in hsp m e S' k cs x hS' hx) n (fun i hi => ⟨xs[i], by rw [hx i hi, List.getElem?_eq_getElem]⟩)
      rw [hc, ← hl, List.take_length] at h2
      exact ⟨us.flatten, h2, us, h1, rfl, h3⟩
    · rename_i e
      split at hS
      case isFalse => cases hS
      rename_i hc
      simp only [Option.map_eq_some_iff] at hS
      obtain ⟨S', hS', rfl⟩ := hS
      exact sl_in (m := m) hsp (fun n cs x h => flat_in hsp m e S' n cs x hS' h) hu hc.1 hc.2 hS' h
    · cases hS

/-! ### What came in -/

/-- The shape of a parameter. -/
def shP (P : Program) (m : Nat) (t : TypeId) : Option Sh := shF P m t

/-- A parameter's value: its cells, or one value of them. -/
def InP (ag : Bool) (S : Sh) (v : V) : Prop := match ag with | true => ∃ cs, v = .agg cs ∧ InSh S cs | false => InSh S [v]

theorem cells_of_agg {xs : Array Value} : (Value.agg xs).cells = xs := rfl

theorem okWide_agg {r : Reach} {b0 : Nat} {t : TypeId} {v : Value} (ha : aggB P t = true) (hv : Value.okWide P w r b0 t v) : ∃ cs, v = .agg cs := by
  unfold aggB at ha
  unfold Value.okWide at hv
  split at ha <;> rename_i hu <;> simp only [hu] at hv
  · exact ⟨hv.choose, hv.choose_spec.1⟩
  · exact ⟨hv.choose, hv.choose_spec.1⟩
  · cases ha

theorem okWide_cell {r : Reach} {b0 : Nat} {t : TypeId} {v : Value} (ha : aggB P t = false) (hv : Value.okWide P w r b0 t v) : Cell.okWide P w r b0 t v := by
  unfold aggB at ha
  unfold Value.okWide at hv
  split at ha
  · cases ha
  · cases ha
  · rename_i hu1 hu2
    split at hv
    · rename_i h2; exact absurd h2 (hu1 _)
    · rename_i h2; exact absurd h2 (hu2 _ _)
    · exact hv

theorem cell_not_agg {r : Reach} {b0 : Nat} {t : TypeId} {xs : Array Value} (hv : Cell.okWide P w r b0 t (.agg xs)) : False := by
  unfold Cell.okWide at hv
  split at hv <;> first | (rename_i h1 h2; cases h2; done) | skip
  unfold Cell.ok at hv
  split at hv <;> simp_all

/-- A parameter that came in. -/
theorem param_in {m : Nat} {t : TypeId} {S : Sh} {v : Value} {r : Reach} {b0 : Nat} {d : DataW H} {ps : List MemPlace} (hsp : ∀ b, sp b = true) (hS : shP P m t = some S) (hok : Value.okWide P w r b0 t v)
    (hd : DataW.Trod enc P w 0 sp held t v d ps) : ∃ u, VRel (argG P w) w u v ∧ InP (aggB P t) S u := by
  obtain ⟨fuel, hd⟩ := hd
  unfold shP at hS
  cases hag : aggB P t with
  | true =>
    obtain ⟨xs, rfl⟩ := okWide_agg hag hok
    obtain ⟨vs, h1, h2⟩ := flat_in hsp m t S fuel _ _ hS hd
    exact ⟨.agg vs, by have := Cells.agg h1; rwa [cells_of_agg, Array.toArray_toList] at this, vs, rfl, h2⟩
  | false =>
    have hcell := okWide_cell hag hok
    have hcs : v.cells.toList = [v] := by
      cases v <;> first | rfl | exact (cell_not_agg hcell).elim
    rw [hcs] at hd
    obtain ⟨vs, h1, h2⟩ := flat_in hsp m t S fuel _ _ hS hd
    obtain ⟨x, rfl⟩ : ∃ x, vs = [x] := by
      have := h1.1
      cases vs with
      | nil => cases this
      | cons x l => cases l with | nil => exact ⟨x, rfl⟩ | cons y l => simp at this
    exact ⟨x, h1.2 0 x v rfl rfl, h2⟩

/-! ### The shapes' values: free of objects -/

theorem InSh.free : ∀ {S : Sh} {vs : List V}, InSh S vs → V.freeL vs = true
  | .int k, vs, ⟨n, h, _⟩ => by subst h; rfl
  | .bool, vs, ⟨n, h⟩ => by subst h; rfl
  | .str, vs, ⟨n, h, _⟩ => by subst h; rfl
  | .unit, vs, h => by cases h; rfl
  | .pair a b, vs, ⟨u, v, h, h1, h2⟩ => by subst h; rw [freeL_append, InSh.free h1, InSh.free h2]; rfl
  | .arr n e, vs, ⟨us, hn, h, h1⟩ => by
    subst h
    clear hn
    induction us with
    | nil => rfl
    | cons u us ih => rw [List.flatten_cons, freeL_append, InSh.free (h1 u (by simp)), ih (fun v hv => h1 v (by simp [hv]))]; rfl
  | .sl ag s e, vs, h => by
    rcases h with rfl | ⟨us, c, rfl, -, -, h1⟩
    · rfl
    · rw [freeL_cons, freeL_nil, Bool.and_true, free_sl]
      clear c
      induction us with
      | nil => rfl
      | cons u us ih =>
        have hu := InSh.free (h1 u (by simp)).2
        rw [List.map_cons, freeL_cons, ih (fun v hv => h1 v (by simp [hv])), Bool.and_true]
        cases ag with
        | true => exact hu
        | false =>
          cases u with
          | nil => rfl
          | cons x u => rw [freeL_cons, Bool.and_eq_true] at hu; exact hu.1

theorem InP.free {ag : Bool} {S : Sh} {v : V} (h : InP ag S v) : v.free = true := by
  cases ag with
  | true => obtain ⟨cs, rfl, h⟩ := h; exact h.free
  | false => have := InSh.free h; rw [freeL_cons, Bool.and_eq_true] at this; exact this.1

end
end Go.Am
