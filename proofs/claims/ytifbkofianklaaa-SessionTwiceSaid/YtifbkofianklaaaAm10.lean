/- Operation by operation: what is built and made, comparisons of structs, strings and bytes. -/
import Derived.Test.YtifbkofianklaaaAm9
set_option linter.unusedVariables false
set_option linter.unusedSimpArgs false
namespace Go.Am
variable {P : Program}

/-- The parts of what is built, side by side. -/
inductive Parts (g : G) (w : World) (place : Nat → Option (Nat × Nat)) : List (Nat × Nat × V) → List (Nat × Value) → Prop where
  | nil : Parts g w place [] []
  | cons (i off size : Nat) (v : V) (x : Value) (l m) (hp : place i = some (off, size)) (hv : VRel g w v x) (h : Parts g w place l m) : Parts g w place ((off, size, v) :: l) ((i, x) :: m)

theorem set_range (l : List Value) (k : Nat) (x : Value) (xs : List Value) (h : k + 1 + xs.length ≤ l.length) :
    (l.set k x).take (k + 1) ++ xs ++ (l.set k x).drop (k + 1 + xs.length) = l.take k ++ (x :: xs) ++ l.drop (k + (xs.length + 1)) := by
  apply List.ext_getElem?
  intro i
  have h1 : ((l.set k x).take (k + 1)).length = k + 1 := by simp; omega
  have h2 : (l.take k).length = k := by simp; omega
  rcases Nat.lt_trichotomy i k with hi | hi | hi
  · rw [List.append_assoc, List.append_assoc, List.getElem?_append_left (by omega), List.getElem?_append_left (by omega), List.getElem?_take_of_lt (by omega), List.getElem?_take_of_lt hi, List.getElem?_set_ne (by omega)]
  · subst hi
    have e1 : ((l.set i x).take (i + 1) ++ xs ++ (l.set i x).drop (i + 1 + xs.length))[i]? = some x := by
      rw [List.append_assoc, List.getElem?_append_left (by omega), List.getElem?_take_of_lt (by omega), List.getElem?_set_self (by omega)]
    have e2 : (l.take i ++ (x :: xs) ++ l.drop (i + (xs.length + 1)))[i]? = some x := by
      rw [List.append_assoc, List.getElem?_append_right (by omega), h2, Nat.sub_self]
      rfl
    rw [e1, e2]
  · rcases Nat.lt_or_ge i (k + 1 + xs.length) with hj | hj
    · rw [List.append_assoc, List.append_assoc, List.getElem?_append_right (by omega), List.getElem?_append_left (by omega), List.getElem?_append_right (by omega), h1, h2, List.cons_append, show i - k = (i - (k + 1)) + 1 by omega, List.getElem?_cons_succ,
        List.getElem?_append_left (by omega)]
    · have h3 : ((l.set k x).take (k + 1) ++ xs).length = k + 1 + xs.length := by simp only [List.length_append, h1]
      have h4 : (l.take k ++ (x :: xs)).length = k + (xs.length + 1) := by simp only [List.length_append, h2, List.length_cons]
      rw [List.getElem?_append_right (by omega), List.getElem?_append_right (by omega), h3, h4, List.getElem?_drop, List.getElem?_drop, List.getElem?_set_ne (by omega)]
      congr 1
      omega

theorem foldl_set (off : Nat) : ∀ (xs : List Value) (k : Nat) (cs : Array Value), off + k + xs.length ≤ cs.toList.length →
    ((xs.zipIdx k).foldl (fun (cs : Array Value) (p : Value × Nat) => cs.setIfInBounds (off + p.2) p.1) cs).toList = cs.toList.take (off + k) ++ xs ++ cs.toList.drop (off + k + xs.length)
  | [], k, cs, h => by simp
  | x :: xs, k, cs, h => by
    simp only [List.length_cons] at h
    rw [List.zipIdx_cons, List.foldl_cons, foldl_set off xs (k + 1) _ (by simp only [Array.toList_setIfInBounds, List.length_set]; omega)]
    simp only [Array.toList_setIfInBounds, List.length_cons, ← Nat.add_assoc]
    exact set_range _ _ _ _ (by omega)

theorem fill_rel {g : G} {w : World} {place : Nat → Option (Nat × Nat)} : ∀ {l : List (Nat × Nat × V)} {m : List (Nat × Value)} (hp : Parts g w place l m) {cs cs' : List V} {xs : Array Value} (hc : Cells g w cs xs.toList) (hf : fillA cs l = some cs'),
    ∃ xs', Instr.fill place xs m = some xs' ∧ Cells g w cs' xs'.toList
  | _, _, .nil, cs, cs', xs, hc, hf => by
    simp only [fillA, Option.some.injEq] at hf
    subst hf
    exact ⟨xs, rfl, hc⟩
  | _, _, .cons i off size v x l m hpl hv h, cs, cs', xs, hc, hf => by
    have hs : v.solid = true := by
      cases v <;> first | rfl | simp [fillA] at hf
    have hf' : (if v.cells.length = size then if off + size ≤ cs.length then fillA (setRange cs off v.cells) l else none else none) = some cs' := by
      cases v <;> first | exact hf | simp [V.solid] at hs
    split at hf'
    case isFalse => cases hf'
    rename_i hsz
    split at hf'
    case isFalse => cases hf'
    rename_i hle
    have hcell := hv.cellsOf hs
    have hxl : x.cells.size = size := by have := hcell.1; simp at this; omega
    have hcl : xs.size = cs.length := by simpa using hc.1
    have hfold := foldl_set off x.cells.toList 0 xs (by simp only [Array.length_toList]; omega)
    simp only [Nat.add_zero] at hfold
    have hlist : (Array.foldl (fun (cs : Array Value) (p : Value × Nat) => cs.setIfInBounds (off + p.2) p.1) xs x.cells.zipIdx).toList = xs.toList.take off ++ x.cells.toList ++ xs.toList.drop (off + x.cells.toList.length) := by
      rw [← hfold]
      congr 1
      rw [← Array.foldl_toList]
      simp
    obtain ⟨xs', h1, h2⟩ := fill_rel h (cs := setRange cs off v.cells) (xs := Array.foldl (fun (cs : Array Value) (p : Value × Nat) => cs.setIfInBounds (off + p.2) p.1) xs x.cells.zipIdx) (by
      rw [hlist]
      refine ⟨by simp [setRange]; omega, fun j c y h1 h2 => ?_⟩
      rw [setRange_get _ _ _ (by omega)] at h1
      have hy : (xs.toList.take off ++ x.cells.toList ++ xs.toList.drop (off + x.cells.toList.length))[j]? = if off ≤ j ∧ j < off + v.cells.length then x.cells.toList[j - off]? else xs.toList[j]? := by
        have hl : x.cells.toList.length = v.cells.length := hcell.1
        rw [hl]
        by_cases a1 : j < off
        · rw [if_neg (by omega), List.append_assoc, List.getElem?_append_left (by simp; omega), List.getElem?_take_of_lt a1]
        · by_cases a2 : j < off + v.cells.length
          · rw [if_pos ⟨by omega, a2⟩, List.append_assoc, List.getElem?_append_right (by simp; omega), List.getElem?_append_left (by simp; omega)]
            congr 1
            simp
            omega
          · rw [if_neg (by omega), List.getElem?_append_right (by simp; omega), List.getElem?_drop]
            congr 1
            simp
            omega
      rw [hy] at h2
      split at h1
      · rename_i hin
        rw [if_pos hin] at h2
        exact hcell.2 _ _ _ h1 h2
      · rename_i hin
        rw [if_neg hin] at h2
        exact hc.2 _ _ _ h1 h2) hf'
    refine ⟨xs', ?_, h2⟩
    rw [Instr.fill, hpl]
    simp only
    rw [if_neg (by simp; omega)]
    exact h1

def placesOf (P : Program) (t : TypeId) : Option (Nat → Option (Nat × Nat)) :=
  match P.underlying t with
  | some (.array _ e) => (P.info? e).map fun ie => fun i => some (i * ie.size, ie.size)
  | some (.struct fields) => (fields.toList.mapM (fun f => (P.info? f.type).map fun i => (f.offset, i.size))).map fun places => fun i => places.toArray[i]?
  | _ => none

theorem zeroOf_info {t : TypeId} {cs : List V} (h : zeroOf P t = some cs) (g : G) (w : World) : ∃ it z, P.info? t = some it ∧ it.zero = some z ∧ Cells g w cs z.cells.toList := by
  unfold zeroOf at h
  cases hi : P.info? t with
  | none => simp [hi] at h
  | some i =>
    simp only [hi, Option.bind_some] at h
    cases hz : i.zero with
    | none => simp [hz] at h
    | some z =>
      simp only [hz, Option.bind_some] at h
      obtain ⟨h1, h2⟩ := cstVs_get _ _ h
      refine ⟨i, z, rfl, hz, h1, fun j c x hj hx => ?_⟩
      obtain ⟨y, hy, hc⟩ := h2 j c hj
      rw [hx] at hy
      cases hy
      exact cst_rel g w hc

theorem goes_build {g : G} {h : Heap} {w : World} (s : Sim g h w) {t : TypeId} {zero cs : List V} (hz : zeroOf P t = some zero) {pl : Nat → Option (Nat × Nat)} (hpl : placesOf P t = some pl) {l : List (Nat × Nat × V)} {m : Array (Nat × Value)}
    (hp : Parts g w pl l m.toList) (hf : fillA zero l = some cs) : Goes P (Instr.build t m) g h w (.agg cs) h := by
  obtain ⟨it, z, hi, hzz, hc0⟩ := zeroOf_info hz g w
  obtain ⟨xs', h1, h2⟩ := fill_rel hp hc0 hf
  refine .still s (x := .agg xs') (run_build w t m xs' ?_) (by have := h2.agg; simpa using this)
  unfold placesOf at hpl
  unfold Program.built
  split at hpl
  · rename_i n e hu
    simp only [Option.map_eq_some_iff] at hpl
    obtain ⟨ie, hie, rfl⟩ := hpl
    simp only [hi, hu, hzz, hie]
    exact h1
  · rename_i fields hu
    simp only [Option.map_eq_some_iff] at hpl
    obtain ⟨places, hps, rfl⟩ := hpl
    simp only [hi, hu, hzz, hps]
    exact h1
  · cases hpl

/-- A block that nobody will write. -/
theorem sim_imm {g : G} {h : Heap} {w : World} (s : Sim g h w) (c : Array Value) (e : TypeId) :
    let w' : World := { w with heap := w.heap.push (.cells c e) }
    let g' : G := ⟨g.loc, fun b => g.imm b ∨ b = w.heap.size, g.code⟩
    Sim g' h w' ∧ Ext g h w g' h w' ∧ g'.imm w.heap.size ∧ (∀ i, w'.cell? (at_ w.heap.size i) = c[i]?) := by
  intro w' g'
  have hframe : ∀ k, k < w.heap.size → w'.heap[k]? = w.heap[k]? := fun k hk => by
    show (w.heap.push _)[k]? = _
    rw [Array.getElem?_push, if_neg (by omega)]
  have hL : Later g w g' w' := ⟨rfl, fun _ _ _ h => h, fun _ h => .inl h, fun k hk => hframe k (s.immlt k hk), fun k y hk => shape_push _ k y hk⟩
  have hblk : ∀ o, blk g' h o = blk g h o := fun o => rfl
  have hlt : ∀ o b, blk g h o = some b → b < w.heap.size := fun o b hb => by
    obtain ⟨x, base, hx, hl, hg⟩ := blk_some hb
    obtain ⟨b', base', hg', hlt, -⟩ := s.obs o x hx hl
    rw [hg] at hg'
    cases hg'
    exact hlt
  refine ⟨⟨fun o x hx hl => ?_, s.inj, fun o b hb hi => ?_, fun b hb => ?_, s.loclt⟩,
    ⟨rfl, fun _ _ _ h => h, fun _ h => .inl h, fun b hb => ?_, by simp [w'], fun k y hk => shape_push _ k y hk, fun b hb _ => hframe b hb, fun o b hb _ => ⟨o, hb⟩, rfl, rfl, rfl⟩, .inr rfl, fun i => ?_⟩
  · obtain ⟨b, base, h1, h2, h3⟩ := s.obs o x hx hl
    exact ⟨b, base, h1, by simp [w']; omega, h3.later hL (hframe b h2)⟩
  · rcases hi with hi | hi
    · exact s.imm o b hb hi
    · have := hlt o b hb; omega
  · rcases hb with hb | hb
    · have := s.immlt b hb; simp [w']; omega
    · simp [w']; omega
  · rcases hb with hb | hb
    · exact .inl hb
    · exact .inr (by omega)
  · simp [w', World.cell?]

theorem wrap_cells : ∀ (l : List V) (h : ∀ c ∈ l, c.oneCell = true), (wrapV l).cells = l
  | [], _ => rfl
  | [x], h => by
    have := h x (by simp)
    cases x <;> first | (simp [V.oneCell] at this; done) | rfl
  | x :: y :: l, _ => rfl

theorem goes_bslice {g : G} {h : Heap} {w : World} (s : Sim g h w) {t e : TypeId} {sz len : Nat} (hu : P.underlying t = some (.slice e)) (hz : szOf P e = some sz) {zero : List V} (hzero : zeroOf P e = some zero) (hzl : zero.length = sz) (hroom : len * sz ≤ 2 ^ 24)
    {row cs : List V} (hrow : row = (List.range (len * sz)).map fun i => zero.getD (i % zero.length) .junk) {l : List (Nat × Nat × V)} {m : Array (Nat × Value)} (hp : Parts g w (fun i => some (i * sz, sz)) l m.toList) (hf : fillA row l = some cs) (h1 : cs.all V.oneCell = true) :
    Goes P (Instr.buildSlice t len m) g h w (.sl ((List.range len).map fun i => wrapV ((cs.drop (i * sz)).take sz)) sz (some len)) h := by
  obtain ⟨it, z, hi, hzz, hc0⟩ := zeroOf_info hzero g w
  have hzsz : z.cells.size = sz := by have := hc0.1; simp at this; omega
  have hrow0 : Cells g w row ((Array.range (len * sz)).map fun i => z.cells[i % z.cells.size]!).toList := by
    refine ⟨by rw [hrow]; simp, fun i c x hc hx => ?_⟩
    rw [hrow, List.getElem?_map] at hc
    rcases Nat.lt_or_ge i (len * sz) with hlt | hge
    · rw [List.getElem?_range hlt] at hc
      simp only [Option.map_some, Option.some.injEq] at hc
      have hpos : 0 < sz := by rcases Nat.eq_zero_or_pos sz with h0 | h0; · rw [h0] at hlt; simp at hlt
                               · exact h0
      have hmod : i % sz < sz := Nat.mod_lt _ hpos
      have hx' : x = z.cells[i % z.cells.size]! := by
        simp [hlt] at hx
        exact hx.symm
      rw [hzl] at hc
      have h1 : zero[i % sz]? = some c := by
        rw [← hc, List.getD_eq_getElem?_getD, List.getElem?_eq_getElem (by omega)]
        rfl
      rw [hx', hzsz]
      have h2 : z.cells.toList[i % sz]? = some (z.cells[i % sz]!) := by
        have : i % sz < z.cells.size := by omega
        simp [this]
      exact hc0.2 _ _ _ h1 h2
    · rw [List.getElem?_eq_none (by simpa using hge)] at hc
      cases hc
  obtain ⟨xs', h2, h3⟩ := fill_rel hp hrow0 hf
  obtain ⟨q1, q2, q3, q4⟩ := sim_imm s xs' e
  have hlen : cs.length = len * sz := by
    have hfl : ∀ (l : List (Nat × Nat × V)) (a b : List V), fillA a l = some b → b.length = a.length := by
      intro l
      induction l with
      | nil => intro a b h; simp [fillA] at h; rw [h]
      | cons p l ih =>
        obtain ⟨off, size, v⟩ := p
        intro a b h
        have h' : (if v.cells.length = size then if off + size ≤ a.length then fillA (setRange a off v.cells) l else none else none) = some b := by
          cases v <;> first | exact h | simp [fillA] at h
        split at h'
        case isFalse => cases h'
        split at h'
        case isFalse => cases h'
        rw [ih _ _ h', setRange_length _ _ _ (by omega)]
    rw [hfl _ _ _ hf, hrow]
    simp
  have hxl : xs'.size = len * sz := by have := h3.1; simp at this; omega
  refine ⟨_, _, .slice (some (at_ w.heap.size 0)) len len, ?_, q1, q2, ?_⟩
  · have hnot : ¬ (len * sz > 2 ^ 24) := by omega
    have hzv : (zeroValue e).run P w = .ok z w := by simp [zeroValue, run_typeInfo (h := hi), hzz]
    have hfill : ∀ zz : Array Value, (len * sz = 0 ∨ zz = z.cells) → Instr.fill (fun i => some (i * sz, sz)) ((Array.range (len * sz)).map fun i => zz[i % zz.size]!) m.toList = some xs' := by
      intro zz hzz'
      rcases hzz' with h0 | rfl
      · have : ((Array.range (len * sz)).map fun i => zz[i % zz.size]!) = ((Array.range (len * sz)).map fun i => z.cells[i % z.cells.size]!) := by rw [h0]; simp
        rw [this]
        exact h2
      · exact h2
    by_cases h0 : len * sz = 0
    · have hf0 := hfill #[] (.inl h0)
      simp only [Instr.buildSlice, Sem.run_bind, run_underlying hu, Result.andThen_ok, run_sizeOf' hz, if_neg hnot, if_pos h0, Sem.run_pure, hf0, newRow]
      rfl
    · have hf0 := hfill z.cells (.inr rfl)
      simp only [Instr.buildSlice, Sem.run_bind, run_underlying hu, Result.andThen_ok, run_sizeOf' hz, if_neg hnot, if_neg h0, hzv, Sem.run_pure, hf0, newRow]
      rfl
  · have hL := q2.later s
    have hget : ∀ (i : Nat) (el : V), ((List.range len).map fun i => wrapV ((cs.drop (i * sz)).take sz))[i]? = some el → i < len ∧ el.cells = (cs.drop (i * sz)).take sz ∧ ((cs.drop (i * sz)).take sz).length = sz := by
      intro i el hel
      rcases Nat.lt_or_ge i len with hlt | hge
      · rw [List.getElem?_map, List.getElem?_range hlt] at hel
        simp only [Option.map_some, Option.some.injEq] at hel
        have hmul : (i + 1) * sz ≤ len * sz := Nat.mul_le_mul_right _ hlt
        rw [Nat.add_mul, Nat.one_mul] at hmul
        refine ⟨hlt, ?_, by simp; omega⟩
        rw [← hel]
        exact wrap_cells ((cs.drop (i * sz)).take sz) (fun c hc => by simpa using List.all_eq_true.1 h1 c (List.mem_of_mem_drop (List.mem_of_mem_take hc)))
      · rw [List.getElem?_eq_none (by simpa using hge)] at hel
        cases hel
    have := VRel.sl (g := ⟨g.loc, fun b => g.imm b ∨ b = w.heap.size, g.code⟩) (w := { w with heap := w.heap.push (.cells xs' e) }) ((List.range len).map fun i => wrapV ((cs.drop (i * sz)).take sz)) sz (some len) w.heap.size 0 len (fun j => xs'.getD j undef) (fun _ => q3) (by simp) (fun k hk => by cases hk; rfl) ?_ ?_ ?_
    · simpa using this
    · intro i el hel
      rw [(hget i el hel).2.1]
      exact (hget i el hel).2.2
    · intro j hj
      simp only [List.length_map, List.length_range] at hj
      rw [q4]
      have hlt : j < xs'.size := by omega
      simp [Array.getD_eq_getD_getElem?, hlt]
    · intro i el j x hel hx
      obtain ⟨hi1, hi2, hi3⟩ := hget i el hel
      rw [hi2, List.getElem?_take] at hx
      split at hx
      case isFalse => cases hx
      rw [List.getElem?_drop] at hx
      have hlt : i * sz + j < xs'.toList.length := by
        have : i * sz + j < cs.length := by rcases Nat.lt_or_ge (i * sz + j) cs.length with k | k; exact k; simp [List.getElem?_eq_none k] at hx
        simp
        omega
      have hr := h3.2 (i * sz + j) x _ hx (List.getElem?_eq_getElem hlt)
      have : xs'.getD (i * sz + j) undef = xs'.toList[i * sz + j] := by
        have : i * sz + j < xs'.size := by simpa using hlt
        simp [Array.getD_eq_getD_getElem?, this]
      rw [this]
      exact hr.later hL

end Go.Am
