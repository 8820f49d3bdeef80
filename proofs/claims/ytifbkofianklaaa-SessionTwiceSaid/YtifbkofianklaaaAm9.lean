/- Operation by operation: slice expressions, what is built, comparisons of structs. -/
import Derived.Test.YtifbkofianklaaaAm8
import Derived.ChangeKeysEq
set_option linter.unusedVariables false
set_option linter.unusedSimpArgs false
namespace Go.Am
variable {P : Program}

def OptRel (g : G) (w : World) : Option V → Option Value → Prop
  | none, none => True
  | some v, some x => VRel g w v x
  | _, _ => False

theorem int_of {g : G} {w : World} {v : V} {x : Value} (h : VRel g w v x) {n : Int} (hn : intOf? v = some n) : ∃ k, x = .int k n := by
  cases h <;> simp [intOf?] at hn
  subst hn
  exact ⟨_, rfl⟩

theorem run_bound {g : G} {w : World} {v : V} {x : Value} (h : VRel g w v x) {y i : Nat} (c : BoundsCode)
    (hv : ((intOf? v).bind fun i => if 0 ≤ i then if i ≤ (y : Int) then some i.toNat else none else none) = some i) (w' : World) : (Instr.sliceBound x y c).run P w' = .ok i w' := by
  simp only [Option.bind_eq_some_iff] at hv
  obtain ⟨n, hn, h1⟩ := hv
  obtain ⟨k, rfl⟩ := int_of h hn
  split at h1
  · split at h1
    · rename_i h0 hy
      cases h1
      simp [Instr.sliceBound, asIntOf, h0, hy]
    · cases h1
  · cases h1

theorem run_bounds {g : G} {w : World} {lo hi mx : Option V} {lo' hi' mx' : Option Value} (h1 : OptRel g w lo lo') (h2 : OptRel g w hi hi') (h3 : OptRel g w mx mx') {len cap cap' l h m : Nat} (isS : Bool)
    (hb : boundsA len cap lo hi mx = some (l, h, m)) (hc : cap ≤ cap') (w' : World) : (Instr.sliceBounds isS len cap' lo' hi' mx').run P w' = .ok (l, h, if mx.isSome then m else cap') w' ∧ l ≤ h ∧ (hi.isSome ∨ h = len) ∧ h ≤ (if mx.isSome ∨ hi.isSome then cap else h) ∧
      (mx.isSome → h ≤ m ∧ m ≤ cap) ∧ (mx = none → m = cap) := by
  unfold boundsA at hb
  split at hb
  · cases hb
  rename_i m' hm
  split at hb
  · cases hb
  rename_i h' hh
  split at hb
  · cases hb
  rename_i l' hl
  cases hb
  have widen : ∀ {v : V} {i : Nat}, ((intOf? v).bind fun i => if 0 ≤ i then if i ≤ (cap : Int) then some i.toNat else none else none) = some i →
      ((intOf? v).bind fun i => if 0 ≤ i then if i ≤ (cap' : Int) then some i.toNat else none else none) = some i := by
    intro v i hv
    simp only [Option.bind_eq_some_iff] at hv ⊢
    obtain ⟨n, hn, hv⟩ := hv
    refine ⟨n, hn, ?_⟩
    split at hv
    · split at hv
      · rename_i a b
        rw [if_pos a, if_pos (by omega)]
        exact hv
      · cases hv
    · cases hv
  have bnd : ∀ {v : V} {y i : Nat}, ((intOf? v).bind fun i => if 0 ≤ i then if i ≤ (y : Int) then some i.toNat else none else none) = some i → i ≤ y := by
    intro v y i hv
    simp only [Option.bind_eq_some_iff] at hv
    obtain ⟨n, hn, hv⟩ := hv
    split at hv
    · split at hv
      · cases hv; omega
      · cases hv
    · cases hv
  cases mx with
  | some vm =>
    cases mx' with
    | none => exact h3.elim
    | some xm =>
      simp only at hm
      have q1 := run_bound (P := P) h3 (if isS then .slice3Acap else .slice3Alen) (widen hm) w'
      cases hi with
      | none => simp at hh
      | some vh =>
        cases hi' with
        | none => exact h2.elim
        | some xh =>
          simp only at hh
          have q2 := run_bound (P := P) h2 .slice3B hh w'
          cases lo with
          | none =>
            cases lo' with
            | some x => exact h1.elim
            | none =>
              simp at hl
              subst hl
              refine ⟨?_, by omega, .inl rfl, ?_, ?_, by simp⟩
              · simp [Instr.sliceBounds, q1, q2]
              · have := bnd hh; have := bnd hm; simp; omega
              · intro _; exact ⟨bnd hh, bnd hm⟩
          | some vl =>
            cases lo' with
            | none => exact h1.elim
            | some xl =>
              simp only at hl
              have q3 := run_bound (P := P) h1 .slice3C hl w'
              refine ⟨?_, bnd hl, .inl rfl, ?_, ?_, by simp⟩
              · simp [Instr.sliceBounds, q1, q2, q3]
              · have := bnd hh; have := bnd hm; simp; omega
              · intro _; exact ⟨bnd hh, bnd hm⟩
  | none =>
    cases mx' with
    | some x => exact h3.elim
    | none =>
      simp only [Option.some.injEq] at hm
      subst hm
      cases hi with
      | none =>
        cases hi' with
        | some x => exact h2.elim
        | none =>
          simp at hh
          subst hh
          cases lo with
          | none =>
            cases lo' with
            | some x => exact h1.elim
            | none =>
              simp at hl
              subst hl
              exact ⟨by simp [Instr.sliceBounds], by omega, .inr rfl, by simp, by simp, by simp⟩
          | some vl =>
            cases lo' with
            | none => exact h1.elim
            | some xl =>
              simp only at hl
              have q3 := run_bound (P := P) h1 .sliceB hl w'
              exact ⟨by simp [Instr.sliceBounds, q3], bnd hl, .inr rfl, by simp, by simp, by simp⟩
      | some vh =>
        cases hi' with
        | none => exact h2.elim
        | some xh =>
          simp only at hh
          have q2 := run_bound (P := P) h2 (if isS then .sliceAcap else .sliceAlen) (widen hh) w'
          cases lo with
          | none =>
            cases lo' with
            | some x => exact h1.elim
            | none =>
              simp at hl
              subst hl
              refine ⟨by simp [Instr.sliceBounds, q2], by omega, .inl rfl, by have := bnd hh; simp; omega, by simp, by simp⟩
          | some vl =>
            cases lo' with
            | none => exact h1.elim
            | some xl =>
              simp only at hl
              have q3 := run_bound (P := P) h1 .sliceB hl w'
              exact ⟨by simp [Instr.sliceBounds, q2, q3], bnd hl, .inl rfl, by have := bnd hh; simp; omega, by simp, by simp⟩

theorem goes_slA {g : G} {h : Heap} {w : World} (s : Sim g h w) {t e : TypeId} {n sz : Nat} (hu : P.underlying t = some (.array n e)) (hz : szOf P e = some sz)
    {o ver off : Nat} {x : Value} (hp : VRel g w (.ptr o ver off) x) (hsh : ∃ cs, cellsAt (fun o => h[o]?) o ver = some cs) {lo hi mx : Option V} {lo' hi' mx' : Option Value} (h1 : OptRel g w lo lo') (h2 : OptRel g w hi hi') (h3 : OptRel g w mx mx')
    {l k m : Nat} (hb : boundsA n n lo hi mx = some (l, k, m)) : Goes P (Instr.sliceAt t x lo' hi' mx') g h w (.view o ver (if m = l then off else off + l * sz) (k - l) sz (some (m - l))) h := by
  obtain ⟨hrun, hlk, hkl, hkc, hm1, hm2⟩ := run_bounds (P := P) h1 h2 h3 false hb (Nat.le_refl _) w
  obtain ⟨cs, hc⟩ := hsh
  cases hp with
  | ptr _ _ _ b base hg =>
    obtain ⟨_, b', base', -, -, -, hg', -, -, ⟨e', N, hs⟩, -, -⟩ := sim_cells s hc
    rw [hg] at hg'
    cases hg'
    have hmm : (if mx.isSome then m else n) = m := by
      cases mx with
      | none => simp [hm2 rfl]
      | some v => simp
    rw [hmm] at hrun
    have hkm : k ≤ m := by
      cases mx with
      | none =>
        have := hm2 rfl
        rcases hkl with hh | hh
        · simp [hh] at hkc; omega
        · omega
      | some v => exact (hm1 rfl).1
    refine .still s (x := .slice (some (if m = l then at_ b (base + off) else (at_ b (base + off)).add (l * sz))) (k - l) (m - l)) ?_ ?_
    · simp [Instr.sliceAt, run_underlying hu, run_sureAddr, hrun, run_sizeOf' hz]
    · rw [add_at]
      have := VRel.view (g := g) (w := w) o ver (if m = l then off else off + l * sz) (k - l) sz (some (m - l)) b base (m - l) N e' hg (by omega) (fun _ hk => by cases hk; rfl) hs (fun hk => by cases hk)
      split
      · rename_i hml; simpa [hml] using this
      · rename_i hml; simpa [hml, Nat.add_assoc] using this

theorem goes_slStr {g : G} {h : Heap} {w : World} (s : Sim g h w) {t : TypeId} (hu : P.underlying t = some .string) {b : List UInt8} {x : Value} (hx : VRel g w (.str b) x) {lo hi : Option V} {lo' hi' : Option Value} (h1 : OptRel g w lo lo') (h2 : OptRel g w hi hi')
    {l k m : Nat} (hb : boundsA b.length b.length lo hi none = some (l, k, m)) : Goes P (Instr.sliceAt t x lo' hi' none) g h w (.str ((b.take k).drop l)) h := by
  obtain ⟨hrun, -⟩ := run_bounds (P := P) (mx := none) (mx' := none) h1 h2 trivial false hb (Nat.le_refl _) w
  cases hx
  have hrun' : (Instr.sliceBounds false (⟨⟨b⟩⟩ : ByteArray).size (⟨⟨b⟩⟩ : ByteArray).size lo' hi' none).run P w = .ok (l, k, b.length) w := hrun
  have hex : (⟨⟨b⟩⟩ : ByteArray).extract l k = ⟨⟨(b.take k).drop l⟩⟩ := by
    apply ByteArray.ext
    rw [ByteArray.data_extract]
    apply Array.ext'
    simp [List.extract, List.drop_take]
  refine .still s (x := .string ⟨⟨(b.take k).drop l⟩⟩) ?_ (.str _)
  simp [Instr.sliceAt, run_underlying hu, Instr.slice, hrun', hex]

theorem run_slS {w : World} {t e : TypeId} {sz : Nat} (hu : P.underlying t = some (.slice e)) (hz : szOf P e = some sz) {a : Option Addr} {len cap : Nat} {lo' hi' mx' : Option Value} {l k m : Nat}
    (hr : (Instr.sliceBounds true len cap lo' hi' mx').run P w = .ok (l, k, m) w) : (Instr.sliceAt t (.slice a len cap) lo' hi' mx').run P w = .ok (.slice (if m = l then a else a.map (·.add (l * sz))) (k - l) (m - l)) w := by
  simp [Instr.sliceAt, run_underlying hu, Instr.slice, hr, run_sizeOf' hz]

theorem drop_take_get (L : List V) (l k i : Nat) (e : V) (h : ((L.take k).drop l)[i]? = some e) : L[l + i]? = some e := by
  rw [List.getElem?_drop, List.getElem?_take] at h
  split at h
  · exact h
  · cases h

theorem goes_slS {g : G} {h : Heap} {w : World} (s : Sim g h w) {t e : TypeId} {sz : Nat} (hu : P.underlying t = some (.slice e)) (hz : szOf P e = some sz) (hsp : 0 < sz)
    {x v : V} {X : Value} (hx : VRel g w x X) {lo hi mx : Option V} {lo' hi' mx' : Option Value} (h1 : OptRel g w lo lo') (h2 : OptRel g w hi hi') (h3 : OptRel g w mx mx')
    (hv : sliceA (fun o => h[o]?) sz x lo hi mx = some v) : Goes P (Instr.sliceAt t X lo' hi' mx') g h w v h := by
  cases hx <;> (try simp only [sliceA, reduceCtorEq] at hv)
  case nils =>
    simp only [Option.map_eq_some_iff] at hv
    obtain ⟨⟨l, k, m⟩, hb, rfl⟩ := hv
    obtain ⟨hrun, hlk, hkl, hkc, hm1, hm2⟩ := run_bounds (P := P) h1 h2 h3 true hb (Nat.le_refl _) w
    have hk0 : k = 0 := by
      rcases hkl with hh | hh
      · simp [hh] at hkc; omega
      · exact hh
    have hm0 : m = 0 := by
      cases mx with
      | none => exact hm2 rfl
      | some v => have := (hm1 rfl).2; omega
    have hl0 : l = 0 := by omega
    subst hk0; subst hm0; subst hl0
    have hrun' : (Instr.sliceBounds true 0 0 lo' hi' mx').run P w = .ok (0, 0, 0) w := by
      rw [hrun]; cases mx <;> rfl
    exact .still s (by simpa using run_slS (a := none) hu hz hrun') .nils
  case view o ver off len s' cap b base c N e' hg hl hk hs' hN =>
    cases cap with
    | some c' =>
      have := hk c' rfl
      subst this
      simp only [sliceA] at hv
      split at hv
      case isFalse => cases hv
      rename_i hs
      subst hs
      simp only [Option.map_eq_some_iff] at hv
      obtain ⟨⟨l, k, m⟩, hb, rfl⟩ := hv
      obtain ⟨hrun, hlk, hkl, hkc, hm1, hm2⟩ := run_bounds (P := P) h1 h2 h3 true hb (Nat.le_refl _) w
      have hmm : (if mx.isSome then m else c) = m := by
        cases mx with
        | none => simp [hm2 rfl]
        | some v => simp
      rw [hmm] at hrun
      have hkm : k ≤ m := by
        cases mx with
        | none =>
          have := hm2 rfl
          rcases hkl with hh | hh
          · simp [hh] at hkc; omega
          · omega
        | some v => exact (hm1 rfl).1
      refine .still s (run_slS (a := some (at_ b (base + off))) hu hz hrun) ?_
      have := VRel.view (g := g) (w := w) o ver (if m = l then off else off + l * s') (k - l) s' (some (m - l)) b base (m - l) N e' hg (by omega) (fun _ hk => by cases hk; rfl) hs' (fun hk => by cases hk)
      by_cases hml : m = l
      · simp only [if_pos hml] at this ⊢; exact this
      · simp only [if_neg hml, Option.map_some, add_at, Nat.add_assoc] at this ⊢; exact this
    | none =>
      simp only [sliceA] at hv
      split at hv
      case isFalse => cases hv
      rename_i hs
      subst hs
      split at hv
      case h_2 => cases hv
      rename_i cs hc
      obtain ⟨x, b', base', -, -, -, hg', -, -, -, hfz, hlies⟩ := sim_cells s hc
      rw [hg] at hg'
      cases hg'
      have hNN := hN rfl
      have hcap : (cs.length - off) / s' ≤ c := by
        rcases Nat.lt_or_ge off cs.length with hlt | hge
        · obtain ⟨y, hy, -⟩ := hlies (cs.length - 1) _ (List.getElem?_eq_getElem (by omega))
          have := shape_of_cell hs' hy
          have hle : cs.length - off ≤ c * s' := by omega
          calc (cs.length - off) / s' ≤ c * s' / s' := Nat.div_le_div_right hle
            _ = c := Nat.mul_div_cancel _ hsp
        · rw [Nat.sub_eq_zero_of_le hge, Nat.zero_div]; exact Nat.zero_le _
      cases mx with
      | some vm =>
        simp only [Option.map_eq_some_iff] at hv
        obtain ⟨⟨l, k, m⟩, hb, rfl⟩ := hv
        obtain ⟨hrun, hlk, hkl, hkc, hm1, hm2⟩ := run_bounds (P := P) h1 h2 h3 true hb hcap w
        simp only [Option.isSome_some, if_true] at hrun
        have hkm := (hm1 rfl).1
        refine .still s (run_slS (a := some (at_ b (base + off))) hu hz hrun) ?_
        have := VRel.view (g := g) (w := w) o ver (if m = l then off else off + l * s') (k - l) s' (some (m - l)) b base (m - l) N e' hg (by omega) (fun _ hk => by cases hk; rfl) hs' (fun hk => by cases hk)
        by_cases hml : m = l
        · simp only [if_pos hml] at this ⊢; exact this
        · simp only [if_neg hml, Option.map_some, add_at, Nat.add_assoc] at this ⊢; exact this
      | none =>
        simp only [Option.bind_eq_some_iff] at hv
        obtain ⟨⟨l, k, m⟩, hb, hv⟩ := hv
        obtain ⟨hrun, hlk, hkl, hkc, hm1, hm2⟩ := run_bounds (P := P) h1 h2 h3 true hb hcap w
        simp only [Option.isSome_none, Bool.false_eq_true, if_false] at hrun
        have hkc2 : k ≤ c := by
          rcases hkl with hh | hh
          · simp [hh] at hkc; omega
          · omega
        split at hv
        · rename_i h0
          cases hv
          subst h0
          have := run_slS (a := some (at_ b (base + off))) hu hz hrun
          refine .still s this ?_
          have hv' := VRel.view (g := g) (w := w) o ver off k s' none b base c N e' hg hkc2 (fun _ hk => by cases hk) hs' hN
          split
          · simpa using hv'
          · simpa [add_at] using hv'
        · split at hv
          · rename_i h0 hlt
            cases hv
            have hne : ¬ c = l := by omega
            have := run_slS (a := some (at_ b (base + off))) hu hz hrun
            rw [if_neg hne] at this
            refine .still s this ?_
            have hmul : l * s' + (c - l) * s' = c * s' := by rw [← Nat.add_mul]; congr 1; omega
            have hv' := VRel.view (g := g) (w := w) o ver (off + l * s') (k - l) s' none b base (c - l) N e' hg (by omega) (fun _ hk => by cases hk) hs' (fun _ => by omega)
            simpa [add_at, Nat.add_assoc] using hv'
          · rename_i h0 hlt
            cases hv
            have hkl' : k - l = 0 := by omega
            have hr := run_slS (a := some (at_ b (base + off))) hu hz hrun
            refine .still s hr ?_
            rw [hkl']
            by_cases hml : c = l
            · rw [if_pos hml]
              exact .vend o ver s' b base _ _ N e' hg hs' (.inl (by omega))
            · rw [if_neg hml]
              simp only [Option.map_some, add_at]
              have hmul : l * s' + (c - l) * s' = c * s' := by rw [← Nat.add_mul]; congr 1; omega
              exact .vend o ver s' b base _ _ N e' hg hs' (.inr (by omega))
  case vend o ver s' b base x c N e' hg hs' hN =>
    split at hv
    case isFalse => cases hv
    rename_i hs
    subst hs
    simp only [Option.map_eq_some_iff] at hv
    obtain ⟨⟨l, k, m⟩, hb, rfl⟩ := hv
    cases mx with
    | some v => simp [boundsA, intOf?] at hb
    | none =>
      cases mx' with
      | some v => exact h3.elim
      | none =>
        obtain ⟨hrun, hlk, hkl, hkc, hm1, hm2⟩ := run_bounds (P := P) (mx := none) (mx' := none) h1 h2 trivial true hb (Nat.zero_le c) w
        simp only [Option.isSome_none, Bool.false_eq_true, if_false] at hrun
        have hk0 : k = 0 := by
          rcases hkl with hh | hh
          · simp [hh] at hkc; omega
          · exact hh
        have hl0 : l = 0 := by omega
        subst hk0; subst hl0
        have hr := run_slS (a := some (at_ b x)) hu hz hrun
        refine .still s hr ?_
        have : (if c = 0 then some (at_ b x) else (some (at_ b x)).map (·.add (0 * s'))) = some (at_ b x) := by split <;> simp [add_at]
        rw [this]
        exact .vend o ver s' b base x c N e' hg hs' hN
  case sl L s' cap b off c f hi' hl hk hz' hc hv' =>
    have sub : ∀ (l k c' : Nat) (cap' : Option Nat), l ≤ k → k ≤ L.length → k - l ≤ c' → (∀ q, cap' = some q → c' = q) → ∀ off', (off' = off + l * s' ∨ l = k) →
        VRel g w (.sl ((L.take k).drop l) s' cap') (.slice (some (at_ b off')) (k - l) c') := by
      intro l k c' cap' hlk hkL hkc hq off' hoff
      have hlen : ((L.take k).drop l).length = k - l := by simp; omega
      have hmul : l * s' + (k - l) * s' = k * s' := by rw [← Nat.add_mul]; congr 1; omega
      have hmul2 : k * s' ≤ L.length * s' := Nat.mul_le_mul_right _ hkL
      have := VRel.sl (g := g) (w := w) ((L.take k).drop l) s' cap' b off' c' (fun j => f (l * s' + j)) (fun hne => hi' (fun e => hne (by rw [e]; simp))) (by omega) hq (fun i e he => hz' _ _ (drop_take_get _ _ _ _ _ he))
        (fun j hj => by
          rw [hlen] at hj
          rcases hoff with hoff | hoff
          · rw [hoff, Nat.add_assoc]; exact hc _ (by omega)
          · subst hoff; simp at hj)
        (fun i e j x he hx => by
          have := hv' (l + i) e j x (drop_take_get _ _ _ _ _ he) hx
          rwa [show (l + i) * s' + j = l * s' + (i * s' + j) by rw [Nat.add_mul]; omega] at this)
      rw [hlen] at this
      exact this
    cases cap with
    | some c' =>
      have := hk c' rfl
      subst this
      simp only [sliceA] at hv
      split at hv
      case isFalse => cases hv
      rename_i hs
      subst hs
      simp only [Option.bind_eq_some_iff] at hv
      obtain ⟨⟨l, k, m⟩, hb, hv⟩ := hv
      split at hv
      case isFalse => cases hv
      rename_i hkL
      cases hv
      obtain ⟨hrun, hlk, hkl, hkc, hm1, hm2⟩ := run_bounds (P := P) h1 h2 h3 true hb (Nat.le_refl _) w
      have hmm : (if mx.isSome then m else c) = m := by
        cases mx with
        | none => simp [hm2 rfl]
        | some v => simp
      rw [hmm] at hrun
      have hkm : k ≤ m := by
        cases mx with
        | none =>
          have := hm2 rfl
          rcases hkl with hh | hh
          · simp [hh] at hkc; omega
          · omega
        | some v => exact (hm1 rfl).1
      have hr := run_slS (a := some (at_ b off)) hu hz hrun
      refine .still s hr ?_
      split
      · rename_i hml
        exact sub l k (m - l) _ hlk hkL (by omega) (fun q hq => by cases hq; rfl) off (.inr (by omega))
      · simp only [Option.map_some, add_at]
        exact sub l k (m - l) _ hlk hkL (by omega) (fun q hq => by cases hq; rfl) _ (.inl rfl)
    | none =>
      simp only [sliceA] at hv
      split at hv
      case isFalse => cases hv
      rename_i hs
      subst hs
      simp only [Option.map_eq_some_iff] at hv
      obtain ⟨⟨l, k, m⟩, hb, rfl⟩ := hv
      obtain ⟨hrun, hlk, hkl, hkc, hm1, hm2⟩ := run_bounds (P := P) h1 h2 h3 true hb hl w
      have hkL : k ≤ L.length := by
        rcases hkl with hh | hh
        · simp [hh] at hkc; omega
        · omega
      cases mx with
      | none =>
        simp only [Option.isSome_none, Bool.false_eq_true, if_false] at hrun ⊢
        have hr := run_slS (a := some (at_ b off)) hu hz hrun
        refine .still s hr ?_
        split
        · rename_i hml
          exact sub l k (c - l) _ hlk hkL (by omega) (fun q hq => by cases hq) off (.inr (by omega))
        · simp only [Option.map_some, add_at]
          exact sub l k (c - l) _ hlk hkL (by omega) (fun q hq => by cases hq) _ (.inl rfl)
      | some vm =>
        simp only [Option.isSome_some, if_true] at hrun ⊢
        have hkm := (hm1 rfl).1
        have hr := run_slS (a := some (at_ b off)) hu hz hrun
        refine .still s hr ?_
        split
        · rename_i hml
          exact sub l k (m - l) _ hlk hkL (by omega) (fun q hq => by cases hq; rfl) off (.inr (by omega))
        · simp only [Option.map_some, add_at]
          exact sub l k (m - l) _ hlk hkL (by omega) (fun q hq => by cases hq; rfl) _ (.inl rfl)
  case sl0 s' cap a hk =>
    have sub : ∀ (l k c' : Nat) (cap' : Option Nat), l = 0 → k = 0 → c' = 0 → (∀ q, cap' = some q → 0 = q) →
        VRel g w (.sl ((([] : List V).take k).drop l) s' cap') (.slice (if c' = l then some a else (some a).map (·.add (l * s'))) (k - l) (c' - l)) := by
      rintro l k c' cap' rfl rfl rfl hq
      exact .sl0 s' cap' a hq
    cases cap with
    | some c' =>
      have := hk c' rfl
      subst this
      simp only [sliceA] at hv
      split at hv
      case isFalse => cases hv
      rename_i hs
      subst hs
      simp only [Option.bind_eq_some_iff] at hv
      obtain ⟨⟨l, k, m⟩, hb, hv⟩ := hv
      split at hv
      case isFalse => cases hv
      rename_i hkL
      cases hv
      obtain ⟨hrun, hlk, hkl, hkc, hm1, hm2⟩ := run_bounds (P := P) h1 h2 h3 true hb (Nat.le_refl _) w
      have hk0 : k = 0 := by simpa using hkL
      have hl0 : l = 0 := by omega
      have hm0 : m = 0 := by
        cases mx with
        | none => exact hm2 rfl
        | some v => have := (hm1 rfl).2; omega
      have hmm : (if mx.isSome then m else 0) = m := by
        cases mx with
        | none => simp [hm0]
        | some v => simp
      rw [hmm] at hrun
      have hr := run_slS (a := some a) hu hz hrun
      refine .still s hr ?_
      exact sub l k m _ hl0 hk0 hm0 (fun q hq => by cases hq; omega)
    | none =>
      simp only [sliceA] at hv
      split at hv
      case isFalse => cases hv
      rename_i hs
      subst hs
      simp only [Option.map_eq_some_iff] at hv
      obtain ⟨⟨l, k, m⟩, hb, rfl⟩ := hv
      obtain ⟨hrun, hlk, hkl, hkc, hm1, hm2⟩ := run_bounds (P := P) h1 h2 h3 true hb (Nat.zero_le _) w
      have hk0 : k = 0 := by
        rcases hkl with hh | hh
        · simp [hh] at hkc; omega
        · simpa using hh
      have hl0 : l = 0 := by omega
      cases mx with
      | none =>
        simp only [Option.isSome_none, Bool.false_eq_true, if_false] at hrun ⊢
        have hr := run_slS (a := some a) hu hz hrun
        refine .still s hr ?_
        exact sub l k 0 _ hl0 hk0 rfl (fun q hq => by cases hq)
      | some vm =>
        simp only [Option.isSome_some, if_true] at hrun ⊢
        have hkm := (hm1 rfl).2
        have hr := run_slS (a := some a) hu hz hrun
        refine .still s hr ?_
        have hm0 : m = 0 := by simpa using hkm
        exact sub l k m _ hl0 hk0 hm0 (fun q hq => by cases hq; omega)

end Go.Am
