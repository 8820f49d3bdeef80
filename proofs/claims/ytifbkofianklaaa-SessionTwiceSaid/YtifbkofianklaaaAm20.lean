/- The abstract machine's code does what the model's does: regions, loops, bodies. -/
import Derived.Test.YtifbkofianklaaaAm19
import Derived.Test.YtifbkofianklaaaAm25
import Derived.Scope
set_option linter.unusedVariables false
set_option linter.unusedSimpArgs false
namespace Go.Am
variable {P : Program}

def trOps (P : Program) (al : List Nat) (ops : Array Oper) : List Oper → Option (List AOper)
  | [] => some []
  | o :: os => match trOper P al ops o, trOps P al ops os with | some a, some as => some (a :: as) | _, _ => none

def pairsOf (pureF : FuncId → FMode) (ops : Array Oper) (as : List AOper) : List (AOper × List Nat) :=
  as.zipIdx.map fun (a, m) => (a, (List.range m).filter fun q =>
    match as[q]? with
    | some aq => !edge ops m q && !statOk pureF aq a
    | _ => true)

def trRegion (P : Program) (pureF : FuncId → FMode) (al : List Nat) (ops : Array Oper) (draw : Bool) : Option ACode :=
  match trOps P al ops ops.toList with
  | none => none
  | some as =>
    match draw with
    | false => some (.region as)
    | true => if drawOk pureF ops (pairsOf pureF ops as) then some (.draw (pairsOf pureF ops as)) else none

/-- Which slots are given up where: a tree beside the code's. -/
inductive LT where
  | nil
  | node (l : List Nat) (a b : LT)

def LT.here : LT → List Nat
  | .nil => []
  | .node l _ _ => l

def LT.fst : LT → LT
  | .nil => .nil
  | .node _ a _ => a

def LT.snd : LT → LT
  | .nil => .nil
  | .node _ _ b => b

def withClr (l : List Nat) (c : ACode) : ACode := match l with | [] => c | l => .seq c (.clr l)

def preClr (l : List Nat) (c : ACode) : ACode := match l with | [] => c | l => .seq (.clr l) c

/-- 'al': whose objects stand at which place; 'fid': the function's number; 'inR': in a round; the number: how many loops over functions stand ahead. -/
def trCode (P : Program) (pureF : FuncId → FMode) (al : List Nat) (fid : Nat) : Bool → Nat → LT → Code → Option ACode
  | _, _, _, .skip | _, _, _, .label _ => some .skip
  | _, _, lt, .region _ ops draw => (trRegion P pureF al ops draw).map (withClr lt.here)
  | r, k, lt, .seq a b => match trCode P pureF al fid r k lt.fst a, trCode P pureF al fid r (k + (rangesOf a).length) lt.snd b with | some a, some b => some (.seq a b) | _, _ => none
  | r, k, lt, .cond c a b => match trOpd c, trCode P pureF al fid r k lt.fst.fst a, trCode P pureF al fid r (k + (rangesOf a).length) lt.snd.fst b with | some c, some a, some b => some (.cond c (preClr lt.fst.here a) (preClr lt.snd.here b)) | _, _, _ => none
  | r, k, lt, .block id b => (trCode P pureF al fid r k lt.fst b).map (.block id)
  | r, k, lt, .loop b => (trCode P pureF al fid r k lt.fst b).map (.loop lt.here lt.snd.here)
  | r, k, lt, .scope b => trCode P pureF al fid r k lt b
  | _, _, _, .exit id => some (.exit id)
  | _, _, _, .ret => some .ret
  | false, k, lt, .rangeFunc g ps a b => match trOpd g, trCode P pureF al fid true (k + 1) lt.fst a, trCode P pureF al fid true (k + 1 + (rangesOf a).length) lt.snd b with | some g, some a, some b => some (.rangeF g ps.toList a b fid k (al.length + k)) | _, _, _ => none
  | _, _, _, _ => none

theorem rangesA_withClr (l : List Nat) (c : ACode) : rangesA (withClr l c) = rangesA c := by
  cases l <;> simp [withClr, rangesA]
theorem rangesA_preClr (l : List Nat) (c : ACode) : rangesA (preClr l c) = rangesA c := by
  cases l <;> simp [preClr, rangesA]

/-- The loops over functions of a text, told one by one. -/
theorem trCode_ranges {pureF : FuncId → FMode} {al : List Nat} {fid : Nat} : ∀ (c : Code) (r : Bool) (k : Nat) (lt : LT) (ac : ACode), trCode P pureF al fid r k lt c = some ac →
    (r = true → rangesOf c = []) ∧ (rangesA ac).length = (rangesOf c).length ∧ ∀ (i : Nat) (lc : LoopCode), (rangesOf c)[i]? = some lc → ∃ ra lt1 lt2 k1 k2, (rangesA ac)[i]? = some ra ∧ lc.params.toList = ra.1 ∧ trCode P pureF al fid true k1 lt1 lc.assign = some ra.2.1 ∧ trCode P pureF al fid true k2 lt2 lc.body = some ra.2.2 := by
  have two : ∀ {a b : Code} {x y : ACode} {r : Bool}, ((r = true → rangesOf a = []) ∧ (rangesA x).length = (rangesOf a).length ∧ ∀ (i : Nat) (lc : LoopCode), (rangesOf a)[i]? = some lc → ∃ ra lt1 lt2 k1 k2, (rangesA x)[i]? = some ra ∧ lc.params.toList = ra.1 ∧ trCode P pureF al fid true k1 lt1 lc.assign = some ra.2.1 ∧ trCode P pureF al fid true k2 lt2 lc.body = some ra.2.2) →
      ((r = true → rangesOf b = []) ∧ (rangesA y).length = (rangesOf b).length ∧ ∀ (i : Nat) (lc : LoopCode), (rangesOf b)[i]? = some lc → ∃ ra lt1 lt2 k1 k2, (rangesA y)[i]? = some ra ∧ lc.params.toList = ra.1 ∧ trCode P pureF al fid true k1 lt1 lc.assign = some ra.2.1 ∧ trCode P pureF al fid true k2 lt2 lc.body = some ra.2.2) →
      ((r = true → rangesOf a ++ rangesOf b = []) ∧ (rangesA x ++ rangesA y).length = (rangesOf a ++ rangesOf b).length ∧ ∀ (i : Nat) (lc : LoopCode), (rangesOf a ++ rangesOf b)[i]? = some lc → ∃ ra lt1 lt2 k1 k2, (rangesA x ++ rangesA y)[i]? = some ra ∧ lc.params.toList = ra.1 ∧ trCode P pureF al fid true k1 lt1 lc.assign = some ra.2.1 ∧ trCode P pureF al fid true k2 lt2 lc.body = some ra.2.2) := by
    rintro a b x y r ⟨a0, a1, a2⟩ ⟨b0, b1, b2⟩
    refine ⟨fun h => by rw [a0 h, b0 h]; rfl, by simp [a1, b1], fun i lc hi => ?_⟩
    rcases Nat.lt_or_ge i (rangesOf a).length with h | h
    · rw [List.getElem?_append_left h] at hi
      rw [List.getElem?_append_left (by omega)]
      exact a2 i lc hi
    · rw [List.getElem?_append_right h] at hi
      rw [List.getElem?_append_right (by omega), a1]
      exact b2 _ lc hi
  intro c
  induction c with
  | skip => intro r k lt ac h; simp only [trCode, Option.some.injEq] at h; subst h; exact ⟨fun _ => rfl, rfl, fun i lc hi => by simp [rangesOf] at hi⟩
  | label l => intro r k lt ac h; simp only [trCode, Option.some.injEq] at h; subst h; exact ⟨fun _ => rfl, rfl, fun i lc hi => by simp [rangesOf] at hi⟩
  | exit l => intro r k lt ac h; simp only [trCode, Option.some.injEq] at h; subst h; exact ⟨fun _ => rfl, rfl, fun i lc hi => by simp [rangesOf] at hi⟩
  | ret => intro r k lt ac h; simp only [trCode, Option.some.injEq] at h; subst h; exact ⟨fun _ => rfl, rfl, fun i lc hi => by simp [rangesOf] at hi⟩
  | region id ops draw =>
    intro r k lt ac h
    simp only [trCode, Option.map_eq_some_iff] at h
    obtain ⟨a0, h, rfl⟩ := h
    have : rangesA a0 = [] := by
      simp only [trRegion] at h
      split at h
      · cases h
      · split at h
        · cases h; rfl
        · split at h
          · cases h; rfl
          · cases h
    refine ⟨fun _ => rfl, by rw [rangesA_withClr, this]; rfl, fun i lc hi => by simp [rangesOf] at hi⟩
  | seq a b iha ihb =>
    intro r k lt ac h
    simp only [trCode] at h
    split at h
    case h_2 => cases h
    rename_i x y hx hy
    cases h
    exact two (iha _ _ _ _ hx) (ihb _ _ _ _ hy)
  | cond cd a b iha ihb =>
    intro r k lt ac h
    simp only [trCode] at h
    split at h
    case h_2 => cases h
    rename_i o x y ho hx hy
    cases h
    simp only [rangesA, rangesA_preClr, rangesOf]
    exact two (iha _ _ _ _ hx) (ihb _ _ _ _ hy)
  | block id b ih =>
    intro r k lt ac h
    simp only [trCode, Option.map_eq_some_iff] at h
    obtain ⟨x, hx, rfl⟩ := h
    simp only [rangesA, rangesOf]
    exact ih _ _ _ _ hx
  | loop b ih =>
    intro r k lt ac h
    simp only [trCode, Option.map_eq_some_iff] at h
    obtain ⟨x, hx, rfl⟩ := h
    simp only [rangesA, rangesOf]
    exact ih _ _ _ _ hx
  | scope b ih =>
    intro r k lt ac h
    simp only [trCode] at h
    exact ih _ _ _ _ h
  | rangeFunc g ps a b iha ihb =>
    intro r k lt ac h
    cases r with
    | true => simp [trCode] at h
    | false =>
      simp only [trCode] at h
      split at h
      case h_2 => cases h
      rename_i o x y ho hx hy
      cases h
      obtain ⟨a0, a1, a2⟩ := iha _ _ _ _ hx
      obtain ⟨b0, b1, b2⟩ := ihb _ _ _ _ hy
      refine ⟨fun h => (by cases h), by simp [rangesA, rangesOf, a1, b1], fun i lc hi => ?_⟩
      cases i with
      | zero =>
        simp only [rangesOf, List.getElem?_cons_zero, Option.some.injEq] at hi
        subst hi
        exact ⟨_, _, _, _, _, rfl, rfl, hx, hy⟩
      | succ i =>
        simp only [rangesOf, a0 rfl, b0 rfl, List.getElem?_cons_succ, List.append_nil] at hi
        simp at hi
  | _ => intro r k lt ac h; cases r <;> simp [trCode] at h

theorem trOps_get {al : List Nat} {ops : Array Oper} : ∀ {l : List Oper} {as : List AOper}, trOps P al ops l = some as → as.length = l.length ∧ ∀ (i : Nat) (a : AOper), as[i]? = some a → ∃ o, l[i]? = some o ∧ trOper P al ops o = some a
  | [], as, h => by simp [trOps] at h; subst h; simp
  | o :: l, as, h => by
    simp only [trOps] at h
    split at h
    · rename_i a as' h1 h2
      cases h
      obtain ⟨e1, e2⟩ := trOps_get h2
      refine ⟨by simp [e1], fun i b hi => ?_⟩
      cases i with
      | zero => simp at hi; subst hi; exact ⟨o, rfl, h1⟩
      | succ i => simp at hi ⊢; exact e2 i b hi
    · cases h

/-! ### A scope that no jump crosses, inside a fence -/
section scope
variable {F : Fence} {n : Nat} {b : Frame} {a : Act} {k : List Item} {cs : List Frame} {w : World} {Q : Exit → Act → World → Prop}

theorem stepR_scope {c : Code} : step P (lone (b.atR a (.code (.scope c) :: k)) cs w) = .next (lone (b.atR a (.code c :: .inScope c :: k)) cs w) :=
  step_lone_go (by simp [stepG, stepG.exec, Frame.atR])
theorem stepR_inScope {c : Code} : step P (lone (b.atR a (.inScope c :: k)) cs w) = .next (lone (b.atR a k) cs w) :=
  step_lone_go (by simp [stepG, stepG.exec, Frame.atR])

theorem wpIn_scope_straight {c : Code} (h : c.wpIn F n P (Exit.noGoto Q) a w) : (Code.scope c).wpIn F n P Q a w := by
  intro b k cs hro hb hr
  have h0 : (lone (b.atR a (.code (.scope c) :: k)) cs w).fenced P F := fenced_calm hb hr rfl
  obtain ⟨e, a₁, w₁, hq, harr⟩ := h b (.inScope c :: k) cs hro hb hr
  cases e with
  | normal => exact ⟨.normal, a₁, w₁, hq, .head h0 stepR_scope (StepsIn.trans harr (.one (fenced_calm hb hr rfl) stepR_inScope))⟩
  | exit id =>
    have hx : exitTo id (.inScope c :: k) = exitTo id k := by simp [exitTo]
    exact ⟨.exit id, a₁, w₁, hq, fun k' hk => .head h0 stepR_scope (harr.1 k' (by rw [hx]; exact hk)),
      fun hr' hk => let ⟨k₁, h1, h2⟩ := harr.2 hr' (by rw [hx]; exact hk); ⟨k₁, h1, .head h0 stepR_scope h2⟩⟩
  | goto l => exact hq.elim
  | ret => exact ⟨_, a₁, w₁, hq, .of_steps (.one h0 stepR_scope) harr⟩
  | panic ch => exact ⟨_, a₁, w₁, hq, .of_steps (.one h0 stepR_scope) harr⟩
  | outgrown => exact ⟨_, a₁, w₁, hq, .of_steps (.one h0 stepR_scope) harr⟩
end scope

/-- Operations in a row. -/
theorem sim_ops {call : Caller} (hcall : CallOk P call) {fb : Nat} {al : List Nat} {ops : Array Oper} {rd : Option Nat} {nn : Nat} {Q : Exit → Act → World → Prop} {d0 : List Deferred} : ∀ (l : List Oper) (as : List AOper) (g : G) (h : Heap) (w : World) (t : List V) (a : Act) (t' : List V) (h' : Heap),
    trOps P al ops l = some as → runOps call fb as t h = some (t', h') → g.code = codesOf P → Sim g h w → TRel g w t a.tmps → a.defers = d0 →
    (∀ g' w' a', Sim g' h' w' → Ext g h w g' h' w' → TRel g' w' t' a'.tmps → a'.defers = d0 → Q .normal a' w') → wpListIn (FR rd) nn P ops Q l a w
  | [], as, g, h, w, t, a, t', h', ht, hr, hgc, s, r, hd, hQ => by
    simp [trOps] at ht
    subst ht
    simp only [runOps, Option.some.injEq, Prod.mk.injEq] at hr
    obtain ⟨rfl, rfl⟩ := hr
    exact hQ g w a s (Ext.refl _ _ _) r hd
  | o :: l, as, g, h, w, t, a, t', h', ht, hr, hgc, s, r, hd, hQ => by
    simp only [trOps] at ht
    split at ht
    case h_2 => cases ht
    rename_i ao as' h1 h2
    cases ht
    simp only [runOps] at hr
    split at hr
    case h_2 => cases hr
    rename_i t1 k1 hst
    have := sim_step hcall (fb := fb) hgc s r h1 hst (rd := rd) (n := nn) (K := wpListIn (FR rd) nn P ops Q l) (Q := Q) (fun g' w' a' q1 q2 q3 q4 =>
      sim_ops hcall l as' g' k1 w' t1 a' t' h' h2 hr (q2.code.trans hgc) q1 q3 (q4.trans hd) (fun g2 w2 a2 p1 p2 p3 p4 => hQ g2 w2 a2 p1 (q2.trans p2) p3 p4))
    simp only [wpListIn]
    exact this

/-- A region whose order is open. -/
theorem sim_any {call : Caller} (hcall : CallOk P call) {fb : Nat} {al : List Nat} {ops : Array Oper} {as : List AOper} (has : trOps P al ops ops.toList = some as) {rd : Option Nat} {nn : Nat} {Q : Exit → Act → World → Prop} {d0 : List Deferred} {fin : List V × Heap → Prop} {C : Nat → List V → Prop} :
    ∀ (fuel : Nat) (listed : Array Bool) (g : G) (h : Heap) (w : World) (t : List V) (a : Act), AnyA call fb ops as fin C fuel listed (t, h) → g.code = codesOf P → Sim g h w → TRel g w t a.tmps → a.defers = d0 →
    (∀ t' h' g' w' a', fin (t', h') → Sim g' h' w' → Ext g h w g' h' w' → TRel g' w' t' a'.tmps → a'.defers = d0 → Q .normal a' w') → wpAnyIn (FR rd) nn P .any ops Q fuel listed a w
  | 0, listed, g, h, w, t, a, H, hgc, s, r, hd, hQ => ⟨H.1, hQ _ _ g w a H.2 s (Ext.refl _ _ _) r hd⟩
  | fuel + 1, listed, g, h, w, t, a, H, hgc, s, r, hd, hQ => by
    refine ⟨fun h0 => hQ _ _ g w a (H.1 h0) s (Ext.refl _ _ _) r hd, fun i hi => ?_⟩
    obtain ⟨-, ao, ⟨t1, k1⟩, hao, hst, H'⟩ := H.2 i hi
    obtain ⟨o, ho, hto⟩ := (trOps_get has).2 i ao hao
    have ho' : ops[i]? = some o := by simpa using ho
    have := sim_step hcall (fb := fb) hgc s r hto hst (rd := rd) (n := nn) (K := wpAnyIn (FR rd) nn P .any ops Q fuel (listed.setIfInBounds i true)) (Q := Q) (fun g' w' a' q1 q2 q3 q4 =>
      sim_any hcall has fuel _ g' k1 w' t1 a' H' (q2.code.trans hgc) q1 q3 (q4.trans hd) (fun t2 h2 g2 w2 a2 p0 p1 p2 p3 p4 => hQ t2 h2 g2 w2 a2 p0 p1 (q2.trans p2) p3 p4))
    unfold wpOpIn
    simp only [ho']
    exact this

theorem TRel.clear {g : G} {w : World} : ∀ (clr : List Nat) {t : List V} {tmps : Array Value}, TRel g w t tmps → TRel g w (clear clr t) tmps
  | [], t, tmps, r => r
  | c :: clr, t, tmps, r => by
    have : TRel g w (t.set c .junk) tmps := ⟨by simp [r.1], fun i v hi => by
      by_cases h : c = i
      · subst h
        rcases Nat.lt_or_ge c t.length with hlt | hge
        · rw [List.getElem?_set_self hlt] at hi
          cases hi
          exact .junk _
        · rw [List.getElem?_eq_none (by simpa using hge)] at hi
          cases hi
      · rw [List.getElem?_set_ne h] at hi
        exact r.2 i v hi⟩
    exact TRel.clear clr this

/-- An object is given up. -/
theorem sim_kill1 {g : G} {h : Heap} {w : World} (s : Sim g h w) {o : Nat} {x : Ob} (hx : h[o]? = some x) : Sim g (h.set o ⟨x.ver, .dead⟩) w ∧ Ext g h w g (h.set o ⟨x.ver, .dead⟩) w := by
  have hlt : o < h.length := by
    rcases Nat.lt_or_ge o h.length with h1 | h1
    · exact h1
    · simp [List.getElem?_eq_none h1] at hx
  have hself : (h.set o ⟨x.ver, .dead⟩)[o]? = some ⟨x.ver, .dead⟩ := by simp [hlt]
  have hother : ∀ i, i ≠ o → (h.set o ⟨x.ver, .dead⟩)[i]? = h[i]? := fun i hi => List.getElem?_set_ne (Ne.symm hi)
  have hblk : ∀ i b, blk g (h.set o ⟨x.ver, .dead⟩) i = some b → blk g h i = some b := by
    intro i b hb
    by_cases hi : i = o
    · subst hi
      simp [blk, hself, Bd.lives] at hb
    · simpa [blk, hother i hi] using hb
  refine ⟨⟨fun i y hy hl => ?_, fun i j b h1 h2 => s.inj i j b (hblk _ _ h1) (hblk _ _ h2), fun i b hb => s.imm i b (hblk _ _ hb), s.immlt, fun i t b hg => ?_⟩,
    ⟨rfl, fun _ _ _ h => h, fun _ h => h, fun _ h => .inl h, Nat.le_refl _, fun _ _ h => h, fun _ _ _ => rfl, fun i b hb _ => ⟨i, hblk _ _ hb⟩, rfl, rfl, rfl⟩⟩
  · by_cases hi : i = o
    · subst hi
      rw [hself] at hy
      cases hy
      cases hl
    · rw [hother i hi] at hy
      exact s.obs i y hy hl
  · obtain ⟨y, hy, ht⟩ := s.loclt i t b hg
    by_cases hi : i = o
    · subst hi
      rw [hx] at hy
      cases hy
      exact ⟨_, hself, ht⟩
    · exact ⟨y, by rw [hother i hi]; exact hy, ht⟩

theorem sim_kill {g : G} {w : World} (fb : Nat) : ∀ (kill : List Nat) {h : Heap}, Sim g h w → Sim g (killA fb kill h) w ∧ Ext g h w g (killA fb kill h) w
  | [], h, s => ⟨s, Ext.refl _ _ _⟩
  | k :: kill, h, s => by
    have step : Sim g (match h[fb + k]? with | some x => h.set (fb + k) ⟨x.ver, .dead⟩ | none => h) w ∧ Ext g h w g (match h[fb + k]? with | some x => h.set (fb + k) ⟨x.ver, .dead⟩ | none => h) w := by
      cases hx : h[fb + k]? with
      | none => exact ⟨s, Ext.refl _ _ _⟩
      | some x => exact sim_kill1 s hx
    obtain ⟨h1, h2⟩ := sim_kill fb kill step.1
    exact ⟨h1, step.2.trans h2⟩

def Ex.to : Ex → Exit
  | .norm => .normal
  | .exit id => .exit id
  | .ret => .ret

/-- Blocks for deferred calls, that nobody owns and in which none stands. -/
def Mk (m : Nat) (g : G) (h : Heap) (w : World) (ds : List Deferred) : Prop := m ≤ w.heap.size ∧ ∃ L : List Nat, ds = L.map (fun r => ({ target := .collected r, args := #[] } : Deferred)) ∧ L.Nodup ∧
  ∀ r ∈ L, m ≤ r ∧ r < w.heap.size ∧ w.heap[r]? = some (.deferred (some [])) ∧ (∀ o, blk g h o ≠ some r) ∧ ¬ g.imm r

theorem Mk.ext {m : Nat} {g g' : G} {h h' : Heap} {w w' : World} {ds : List Deferred} (k : Mk m g h w ds) (e : Ext g h w g' h' w') : Mk m g' h' w' ds := by
  obtain ⟨k0, L, rfl, hn, hL⟩ := k
  refine ⟨Nat.le_trans k0 e.size, L, rfl, hn, fun r hr => ?_⟩
  obtain ⟨h1, h2, h3, h4, h5⟩ := hL r hr
  refine ⟨h1, Nat.lt_of_lt_of_le h2 e.size, by rw [e.frame r h2 h4]; exact h3, fun o ho => ?_, fun hi => ?_⟩
  · obtain ⟨o', ho'⟩ := e.own o r ho h2
    exact h4 o' ho'
  · rcases e.imm' r hi with h | h
    · exact h5 h
    · omega

theorem Mk.nil {m : Nat} {g : G} {h : Heap} {w : World} (hm : m ≤ w.heap.size) : Mk m g h w [] := ⟨hm, [], rfl, .nil, fun r hr => by cases hr⟩

theorem rel_app {g : G} {w : World} {l l' : List V} {zs zs' : Array Value} (h1 : zs.size = l.length ∧ ∀ i c, l[i]? = some c → VRel g w c (zs.getD i undef)) (h2 : zs'.size = l'.length ∧ ∀ i c, l'[i]? = some c → VRel g w c (zs'.getD i undef)) :
    (zs ++ zs').size = (l ++ l').length ∧ ∀ i c, (l ++ l')[i]? = some c → VRel g w c ((zs ++ zs').getD i undef) := by
  refine ⟨by simp [h1.1, h2.1], fun i c hi => ?_⟩
  rcases Nat.lt_or_ge i l.length with hlt | hge
  · rw [List.getElem?_append_left hlt] at hi
    have := h1.2 i c hi
    rw [Array.getD_eq_getD_getElem?] at this ⊢
    rw [Array.getElem?_append_left (by rw [h1.1]; exact hlt)]
    exact this
  · rw [List.getElem?_append_right hge] at hi
    have := h2.2 _ c hi
    rw [Array.getD_eq_getD_getElem?] at this ⊢
    rw [Array.getElem?_append_right (by rw [h1.1]; exact hge), h1.1]
    exact this

/-- The loop over a function. -/
theorem sim_rangeF {call : Caller} (hcall : CallOk P call) {N fb : Nat} {pureF : FuncId → FMode} {fid k site : Nat} {nn m : Nat} {g0 : Operand} {f : Opd} {ps : Array Tmp} {asn body : Code} {A B : ACode} (hf : trOpd g0 = some f)
    (hcode : codesOf P fid k = some ⟨ps, asn, body⟩) {g : G} {h : Heap} {w : World} {t : List V} {a : Act} {x : Ex} {t' : List V} {h' : Heap} {Q : Exit → Act → World → Prop}
    (he : exec pureF call N fb (.rangeF f ps.toList A B fid k site) t h = some (x, t', h')) (hgc : g.code = codesOf P) (s : Sim g h w) (r : TRel g w t a.tmps) (hd : Mk m g h w a.defers)
    (hQ : ∀ g' w' a', Sim g' h' w' → Ext g h w g' h' w' → TRel g' w' t' a'.tmps → Mk m g' h' w' a'.defers → Q x.to a' w') : (Code.rangeFunc g0 ps asn body).wpIn (FR none) nn P Q a w := by
  simp only [exec] at he
  split at he
  case h_2 => cases he
  rename_i x0 hx0
  split at he
  case h_2 => cases he
  rename_i gf xs ys hv
  split at he
  case isTrue => cases he
  rename_i hny
  split at he
  case h_2 => cases he
  rename_i vv h2 hc
  split at he
  case h_2 => cases he
  rename_i v st pend t2 fb2 f2 k2 hx2
  split at he
  case isFalse => cases he
  rename_i hver
  split at he
  case isTrue => cases he
  rename_i hst
  simp only [Option.some.injEq, Prod.mk.injEq] at he
  obtain ⟨rfl, rfl, rfl⟩ := he
  subst hver
  have hro := r.opd _ _ hf
  rw [hv] at hro
  refine wpIn_rangeFunc (fun fn _ => ?_)
  obtain ⟨s1, e1⟩ := sim_lay s (.deferred (some []))
  have hsz : (w.alloc (.deferred (some []))).heap.size = w.heap.size + 1 := World.size_alloc w _
  obtain ⟨s2, e2⟩ := sim_newloop s1 hx0 (t := t) (fb := fb) (f := fid) (k := k) (rec := { state := .ready, pending := none, fn, tmps := a.tmps, params := ps, assign := asn, body, defers := w.heap.size }) rfl rfl
    (by rw [hgc]; exact hcode) r.1 (fun i u hi => ((r.2 i u hi).ext e1 s))
  generalize hg1 : g.put (fb + site) (x0.ver + 1) ((w.alloc (.deferred (some []))).heap.size, 0) = g1 at s2 e2
  generalize hw1 : (w.alloc (.deferred (some []))).alloc (.loop { state := .ready, pending := none, fn, tmps := a.tmps, params := ps, assign := asn, body, defers := w.heap.size }) = w1 at s2 e2
  have hloc : g1.loc (fb + site) (x0.ver + 1) = some (w.heap.size + 1, 0) := by rw [← hg1, ← hsz]; simp [G.put]
  have hent : (Instr.enterLoop fn a.tmps ps asn body (FR none).round).run P w = .ok (w.heap.size + 1, [{ target := .collected w.heap.size, args := #[] }]) w1 := by
    rw [← hw1]; exact run_enterLoop_outer fn a.tmps ps asn body
  have e12 := e1.trans e2
  have hro1 : VRel g1 w1 (.func gf xs ys) (a.eval g0) := hro.ext e12 s
  generalize hX : a.eval g0 = X at hro1
  cases hro1 with
  | func _ _ _ us vs k1 k2' k3 k4 =>
  obtain ⟨⟨fnc, hfn, hbd, hnm⟩, hcl⟩ := hcall.fn gf _ _ vv h2 hny hc
  have hargs := rel_app (g := g1) (w := w1) (rel_app (l := xs) (l' := [.yld (fb + site) (x0.ver + 1)]) (zs := us) (zs' := #[.func (.yield (w.heap.size + 1)) #[] #[]]) ⟨k1, k3⟩ ⟨rfl, fun i c hi => by
    cases i with
    | zero => simp at hi; subst hi; exact .yld _ _ _ hloc
    | succ i => simp at hi⟩) (l' := ys) (zs' := vs) ⟨k2', k4⟩
  have hgc1 : g1.code = codesOf P := e12.code.trans hgc
  obtain ⟨AR, hAR⟩ : ∃ AR, AR = us ++ #[.func (.yield (w.heap.size + 1)) #[] #[]] ++ vs := ⟨_, rfl⟩
  rw [← hAR] at hargs
  have hres : (resolve a.eval (rangeCall g0 (w.heap.size + 1)) 0).run P w1 = .ok { target := .fn (.func gf) vs, args := us ++ #[.func (.yield (w.heap.size + 1)) #[] #[]] } w1 := by
    have hev : a.eval (.const (.func (.yield (w.heap.size + 1)) #[] #[])) = .func (.yield (w.heap.size + 1)) #[] #[] := rfl
    simp [resolve, Deferred.ofValue, hX, hev]
  have hcalls := hcl g1 w1 AR hgc1 s2 hargs.1 hargs.2
  clear hargs
  refine ⟨w.heap.size + 1, _, w1, _, w1, gf, AR, w1, hent, hres, fun _ _ => trivial, ?_, fun h => by simp [FR, Fence.wide] at h, callsIn_FR (hcalls.mono ?_)⟩
  · rw [hAR]
    simp [invoke, run_callFunc hfn hbd hnm]
  · rintro e w3 ⟨y, g3, rfl, s3, e3, r3⟩
    obtain ⟨b, rec3, q1, q2, q3, q4, q5, q6, q7, q8, q9⟩ := sim_loop s3 hx2
    have hb : b = w.heap.size + 1 := by
      have := e3.loc _ _ _ hloc
      rw [q1] at this
      cases this
      rfl
    subst hb
    obtain ⟨s4, e4⟩ := sim_turn s3 hx2 q1 q4 (rec' := { rec3 with state := .exhausted }) (st' := 3) (pend' := pend) rfl q6 rfl rfl rfl rfl
    have hget : (h2.set (fb + site) ⟨x0.ver + 1, .loop 3 pend t2 fb2 f2 k2⟩)[fb + site]? = some ⟨x0.ver + 1, .loop 3 pend t2 fb2 f2 k2⟩ := List.getElem?_set_self (List.getElem?_eq_some_iff.1 hx2).1
    obtain ⟨s5, e5⟩ := sim_kill1 s4 hget
    simp only [List.set_set] at s5 e5
    refine ⟨rec3.pending, _, run_endLoop q4 (fun e => hst (by rw [← q5, e]; rfl)), ?_⟩
    generalize w3.putObj (w.heap.size + 1) (.loop { rec3 with state := .exhausted }) = w4 at s4 e4 s5 e5 ⊢
    have eall := ((e12.trans e3).trans e4).trans e5
    have hmk : Mk m g h (w.alloc (.deferred (some []))) ([{ target := .collected w.heap.size, args := #[] }] ++ a.defers) := by
      have hd1 := hd.ext e1
      obtain ⟨m0, L, hL, hn, hall⟩ := hd1
      obtain ⟨m0', L', hL', hn', hall'⟩ := hd
      have eLL : L = L' := by
        have := hL.symm.trans hL'
        have inj : ∀ (A B : List Nat), A.map (fun r => ({ target := .collected r, args := #[] } : Deferred)) = B.map (fun r => ({ target := .collected r, args := #[] } : Deferred)) → A = B := by
          intro A
          induction A with
          | nil => intro B hB; cases B with | nil => rfl | cons b B => simp at hB
          | cons a A ih => intro B hB; cases B with
            | nil => simp at hB
            | cons b B => simp only [List.map_cons, List.cons.injEq, Deferred.mk.injEq, Target.collected.injEq, and_true] at hB; rw [hB.1, ih B hB.2]
        exact inj L L' this
      subst eLL
      refine ⟨by rw [hsz]; omega, w.heap.size :: L, by rw [List.map_cons, ← hL]; rfl, ?_, fun r hr => ?_⟩
      · rw [List.nodup_cons]
        refine ⟨fun hm => ?_, hn⟩
        have := (hall' _ hm).2.1
        omega
      · rcases List.mem_cons.1 hr with rfl | hr
        · refine ⟨m0', by rw [hsz]; omega, World.alloc_heap_new w _, fun o ho => ?_, fun hi => ?_⟩
          · obtain ⟨z, base, hz, hlv, hgz⟩ := blk_some ho
            obtain ⟨b', base', hg', hlt, -⟩ := s.obs o z hz hlv
            rw [hgz] at hg'
            cases hg'
            omega
          · have := s.immlt _ hi
            omega
        · exact hall r hr
    have hmk5 := ((hmk.ext e2).ext e3 |>.ext e4).ext e5
    have hr5 : TRel g3 w4 t ({ a with defers := [{ target := .collected w.heap.size, args := #[] }] ++ a.defers } : Act).tmps := r.ext eall s
    rw [q6]
    cases pend with
    | none => exact hQ g3 _ _ s5 eall hr5 hmk5
    | some j =>
      cases j with
      | none => exact wpIn_ret (hQ g3 _ _ s5 eall hr5 hmk5)
      | some id => exact wpIn_exit (hQ g3 _ _ s5 eall hr5 hmk5)

theorem sim_code {pureF : FuncId → FMode} {call : Caller} (hm : P.follows .mixedOrders = true) (hcall : CallOk P call) (hpure : PureOk pureF call) {N fb : Nat} {al : List Nat} {fid : Nat} {rd : Option Nat} {nn m : Nat} {inR : Bool} (hrd : inR = false → rd = none) :
    ∀ (c : Code) (kk : Nat) (lt : LT) (ac : ACode), trCode P pureF al fid inR kk lt c = some ac → (∀ i lc, (rangesOf c)[i]? = some lc → codesOf P fid (kk + i) = some lc) → ∀ (g : G) (h : Heap) (w : World) (t : List V) (a : Act) (x : Ex) (t' : List V) (h' : Heap) (Q : Exit → Act → World → Prop),
    exec pureF call N fb ac t h = some (x, t', h') → g.code = codesOf P → Sim g h w → TRel g w t a.tmps → Mk m g h w a.defers →
    (∀ g' w' a', Sim g' h' w' → Ext g h w g' h' w' → TRel g' w' t' a'.tmps → Mk m g' h' w' a'.defers → Q x.to a' w') → c.wpIn (FR rd) nn P Q a w := by
  intro c
  induction c with
  | skip =>
    intro kk lt ac ht hcd g h w t a x t' h' Q he hgc s r hd hQ
    simp only [trCode, Option.some.injEq] at ht
    subst ht
    simp only [exec, Option.some.injEq, Prod.mk.injEq] at he
    obtain ⟨rfl, rfl, rfl⟩ := he
    exact wpIn_skip (hQ g w a s (Ext.refl _ _ _) r hd)
  | label l =>
    intro kk lt ac ht hcd g h w t a x t' h' Q he hgc s r hd hQ
    simp only [trCode, Option.some.injEq] at ht
    subst ht
    simp only [exec, Option.some.injEq, Prod.mk.injEq] at he
    obtain ⟨rfl, rfl, rfl⟩ := he
    exact wpIn_label (hQ g w a s (Ext.refl _ _ _) r hd)
  | exit id =>
    intro kk lt ac ht hcd g h w t a x t' h' Q he hgc s r hd hQ
    simp only [trCode, Option.some.injEq] at ht
    subst ht
    simp only [exec, Option.some.injEq, Prod.mk.injEq] at he
    obtain ⟨rfl, rfl, rfl⟩ := he
    exact wpIn_exit (hQ g w a s (Ext.refl _ _ _) r hd)
  | ret =>
    intro kk lt ac ht hcd g h w t a x t' h' Q he hgc s r hd hQ
    simp only [trCode, Option.some.injEq] at ht
    subst ht
    simp only [exec, Option.some.injEq, Prod.mk.injEq] at he
    obtain ⟨rfl, rfl, rfl⟩ := he
    exact wpIn_ret (hQ g w a s (Ext.refl _ _ _) r hd)
  | region id ops draw =>
    intro kk lt ac ht hcd g h w t a x t' h' Q he hgc s r hd hQ
    simp only [trCode, Option.map_eq_some_iff] at ht
    obtain ⟨a0, ht, rfl⟩ := ht
    have main : ∀ (t1 : List V) (k1 : Heap), exec pureF call N fb a0 t h = some (.norm, t1, k1) → ∀ (Q : Exit → Act → World → Prop),
        (∀ g' w' a', Sim g' k1 w' → Ext g h w g' k1 w' → TRel g' w' t1 a'.tmps → a'.defers = a.defers → Q .normal a' w') → (Code.region id ops draw).wpIn (FR rd) nn P Q a w := by
      intro t1 k1 he Q hQ
      simp only [trRegion] at ht
      split at ht
      · cases ht
      rename_i as has
      cases draw with
      | false =>
        simp only [Option.some.injEq] at ht
        subst ht
        simp only [exec] at he
        split at he
        · rename_i t2 k2 hr
          simp only [Option.some.injEq, Prod.mk.injEq, true_and] at he
          obtain ⟨rfl, rfl⟩ := he
          exact wpIn_region_list (sim_ops hcall ops.toList as g h w t a _ _ has hr hgc s r rfl hQ)
        · cases he
      | true =>
        simp only at ht
        split at ht
        · rename_i hok
          simp only [Option.some.injEq] at ht
          subst ht
          simp only [exec] at he
          split at he
          · rename_i t2 k2 hr
            simp only [Option.some.injEq, Prod.mk.injEq, true_and] at he
            obtain ⟨rfl, rfl⟩ := he
            have hA := drawA (fb := fb) (frameC_pure hpure) (frameC_look hpure) frameC_frame frameC_grow hok (pairsOf pureF ops as) 0 [] (t, h) rfl (Nat.zero_le _) rfl (fun q _ _ hq => by omega) (Nat.le_refl _) hr
            have e1 : (pairsOf pureF ops as).map (·.1) = as := by
              unfold pairsOf
              rw [List.map_map]
              apply List.ext_getElem?
              intro i
              simp [List.getElem?_zipIdx]
              cases as[i]? <;> rfl
            have e2 : firstB ops.size 0 = Array.replicate ops.size false := by
              apply Array.ext'
              simp only [firstB, Nat.not_lt_zero, decide_false, Array.toList_replicate]
              rw [List.map_const', List.length_range]
            rw [e1, e2, Nat.sub_zero] at hA
            refine wpIn_region_any hm (sim_any (frameC_ok hcall) has ops.size _ g h { w with drawn := w.drawn + 1 } t a hA hgc (s.drew _) ?_ rfl ?_)
            · exact r.ext (Ext.drew g h w _) s
            · rintro t2 h2 g2 w2 a2 hf p1 p2 p3 p4
              cases hf
              exact hQ g2 w2 a2 p1 ((Ext.drew g h w _).trans p2) p3 p4
          · cases he
        · cases ht
    have norm : ∀ {x t1 k1}, exec pureF call N fb a0 t h = some (x, t1, k1) → x = .norm := by
      intro x t1 k1 he
      simp only [trRegion] at ht
      split at ht
      · cases ht
      cases draw with
      | false =>
        simp only [Option.some.injEq] at ht
        subst ht
        simp only [exec] at he
        split at he <;> cases he
        rfl
      | true =>
        simp only at ht
        split at ht
        · simp only [Option.some.injEq] at ht
          subst ht
          simp only [exec] at he
          split at he <;> cases he
          rfl
        · cases ht
    cases hl : lt.here with
    | nil =>
      simp only [hl, withClr] at he
      have := norm he
      subst this
      exact main t' h' he Q (fun g' w' a' q1 q2 q3 q4 => hQ g' w' a' q1 q2 q3 (by rw [q4]; exact hd.ext q2))
    | cons d ds =>
      simp only [hl, withClr, exec] at he
      split at he
      · rename_i t1 k1 hr
        simp only [Option.some.injEq, Prod.mk.injEq] at he
        obtain ⟨rfl, rfl, rfl⟩ := he
        exact main t1 k1 hr Q (fun g' w' a' q1 q2 q3 q4 => hQ g' w' a' q1 q2 (q3.clear _) (by rw [q4]; exact hd.ext q2))
      · rename_i hne
        have := norm he
        subst this
        exact absurd he (hne _ _)
  | seq c1 c2 ih1 ih2 =>
    intro kk lt ac ht hcd g h w t a x t' h' Q he hgc s r hd hQ
    simp only [trCode] at ht
    split at ht
    case h_2 => cases ht
    rename_i a1 a2 h1 h2
    cases ht
    simp only [exec] at he
    have hcA : ∀ i lc, (rangesOf c1)[i]? = some lc → codesOf P fid (kk + i) = some lc := fun i lc hi => hcd i lc (by
      simp only [rangesOf]; rw [List.getElem?_append_left (List.getElem?_eq_some_iff.1 hi).1]; exact hi)
    have hcB : ∀ i lc, (rangesOf c2)[i]? = some lc → codesOf P fid (kk + (rangesOf c1).length + i) = some lc := fun i lc hi => by
      rw [Nat.add_assoc]
      exact hcd _ lc (by simp only [rangesOf]; rw [List.getElem?_append_right (by omega), Nat.add_sub_cancel_left]; exact hi)
    refine wpIn_seq ?_
    split at he
    · rename_i t1 k1 hr
      exact ih1 _ _ a1 h1 hcA g h w t a _ _ _ _ hr hgc s r hd (fun g' w' a' q1 q2 q3 q4 => ih2 _ _ a2 h2 hcB g' k1 w' t1 a' x t' h' Q he (q2.code.trans hgc) q1 q3 q4 (fun g2 w2 a3 p1 p2 p3 p4 => hQ g2 w2 a3 p1 (q2.trans p2) p3 p4))
    · rename_i hne
      refine ih1 _ _ a1 h1 hcA g h w t a x t' h' _ he hgc s r hd (fun g' w' a' q1 q2 q3 q4 => ?_)
      cases x with
      | norm => exact absurd he (hne _ _)
      | exit id => exact hQ g' w' a' q1 q2 q3 q4
      | ret => exact hQ g' w' a' q1 q2 q3 q4
  | cond cnd c1 c2 ih1 ih2 =>
    intro kk lt ac ht hcd g h w t a x t' h' Q he hgc s r hd hQ
    simp only [trCode] at ht
    split at ht
    case h_2 => cases ht
    rename_i o a1 a2 h0 h1 h2
    cases ht
    have pre : ∀ (l : List Nat) (ac : ACode), exec pureF call N fb (preClr l ac) t h = some (x, t', h') → ∃ t0, exec pureF call N fb ac t0 h = some (x, t', h') ∧ TRel g w t0 a.tmps := by
      intro l ac he
      cases l with
      | nil => exact ⟨t, he, r⟩
      | cons d ds => exact ⟨_, he, r.clear _⟩
    simp only [exec] at he
    have hcA : ∀ i lc, (rangesOf c1)[i]? = some lc → codesOf P fid (kk + i) = some lc := fun i lc hi => hcd i lc (by
      simp only [rangesOf]; rw [List.getElem?_append_left (List.getElem?_eq_some_iff.1 hi).1]; exact hi)
    have hcB : ∀ i lc, (rangesOf c2)[i]? = some lc → codesOf P fid (kk + (rangesOf c1).length + i) = some lc := fun i lc hi => by
      rw [Nat.add_assoc]
      exact hcd _ lc (by simp only [rangesOf]; rw [List.getElem?_append_right (by omega), Nat.add_sub_cancel_left]; exact hi)
    have hr := r.opd _ _ h0
    split at he
    · rename_i hv
      rw [hv] at hr
      obtain ⟨t0, he, r0⟩ := pre _ _ he
      refine wpIn_cond_true ?_ (ih1 _ _ a1 h1 hcA g h w t0 a x t' h' Q he hgc s r0 hd hQ)
      generalize a.eval cnd = X at hr
      cases hr
      rfl
    · rename_i hv
      rw [hv] at hr
      obtain ⟨t0, he, r0⟩ := pre _ _ he
      refine wpIn_cond_false ?_ (ih2 _ _ a2 h2 hcB g h w t0 a x t' h' Q he hgc s r0 hd hQ)
      generalize a.eval cnd = X at hr
      cases hr
      rfl
    · cases he
  | block id c ih =>
    intro kk lt ac ht hcd g h w t a x t' h' Q he hgc s r hd hQ
    simp only [trCode, Option.map_eq_some_iff] at ht
    obtain ⟨a1, h1, rfl⟩ := ht
    simp only [exec] at he
    refine wpIn_block ?_
    split at he
    · rename_i i t1 k1 hr
      refine ih _ _ a1 h1 hcd g h w t a _ _ _ _ hr hgc s r hd (fun g' w' a' q1 q2 q3 q4 => ?_)
      show Exit.inBlock id Q (.exit i) a' w'
      simp only [Exit.inBlock]
      split at he
      · rename_i hi
        simp only [Option.some.injEq, Prod.mk.injEq] at he
        obtain ⟨rfl, rfl, rfl⟩ := he
        rw [if_pos hi]
        exact hQ g' w' a' q1 q2 q3 q4
      · rename_i hi
        simp only [Option.some.injEq, Prod.mk.injEq] at he
        obtain ⟨rfl, rfl, rfl⟩ := he
        rw [if_neg hi]
        exact hQ g' w' a' q1 q2 q3 q4
    · rename_i hne
      refine ih _ _ a1 h1 hcd g h w t a x t' h' _ he hgc s r hd (fun g' w' a' q1 q2 q3 q4 => ?_)
      cases x with
      | norm => exact hQ g' w' a' q1 q2 q3 q4
      | exit i => exact absurd he (hne _ _ _)
      | ret => exact hQ g' w' a' q1 q2 q3 q4
  | scope c ih =>
    intro kk lt ac ht hcd g h w t a x t' h' Q he hgc s r hd hQ
    simp only [trCode] at ht
    refine wpIn_scope_straight (ih kk lt ac ht hcd g h w t a x t' h' _ he hgc s r hd (fun g' w' a' q1 q2 q3 q4 => ?_))
    cases x <;> exact hQ g' w' a' q1 q2 q3 q4
  | loop c ih =>
    intro kk lt ac ht hcd g h w t a x t' h' Q he hgc s r hd hQ
    simp only [trCode, Option.map_eq_some_iff] at ht
    obtain ⟨a1, h1, rfl⟩ := ht
    simp only [exec] at he
    have key : ∀ (n : Nat) (g0 : G) (h0 : Heap) (w0 : World) (t0 : List V) (a0 : Act), loopN (exec pureF call N fb a1) (fun t h => (clear lt.here t, killA fb lt.snd.here h)) n t0 h0 = some (x, t', h') → Sim g0 h0 w0 → Ext g h w g0 h0 w0 → TRel g0 w0 t0 a0.tmps → Mk m g0 h0 w0 a0.defers →
        Code.roundsIn (FR rd) nn P c Q n a0 w0 := by
      intro n
      induction n with
      | zero => intro g0 h0 w0 t0 a0 he0; simp [loopN] at he0
      | succ n ihn =>
        intro g0 h0 w0 t0 a0 he0 s0 x0 r0 d0'
        simp only [loopN] at he0
        obtain ⟨sk, xk⟩ := sim_kill fb lt.snd.here s0
        have hgk := (x0.trans xk).code.trans hgc
        have dk := d0'.ext xk
        rw [roundsIn_succ]
        split at he0
        · rename_i t1 k1 hr
          exact ih _ _ a1 h1 hcd g0 _ w0 _ a0 _ _ _ _ hr hgk sk (r0.clear _) dk (fun g' w' a' q1 q2 q3 q4 => ihn g' k1 w' t1 a' he0 q1 ((x0.trans xk).trans q2) q3 q4)
        · rename_i hne
          refine ih _ _ a1 h1 hcd g0 _ w0 _ a0 x t' h' _ he0 hgk sk (r0.clear _) dk (fun g' w' a' q1 q2 q3 q4 => ?_)
          cases x with
          | norm => exact absurd he0 (hne _ _)
          | exit i => exact hQ g' w' a' q1 ((x0.trans xk).trans q2) q3 q4
          | ret => exact hQ g' w' a' q1 ((x0.trans xk).trans q2) q3 q4
    exact wpIn_loop_rounds N (key N g h w t a he s (Ext.refl _ _ _) r hd)
  | rangeFunc g0 ps asn body _ _ =>
    intro kk lt ac ht hcd g h w t a x t' h' Q he hgc s r hd hQ
    cases inR with
    | true => simp [trCode] at ht
    | false =>
      cases hrd rfl
      simp only [trCode] at ht
      split at ht
      case h_2 => cases ht
      rename_i f A B hf hA hB
      cases ht
      exact sim_rangeF hcall hf (hcd 0 _ rfl) he hgc s r hd hQ
  | _ => intro kk lt ac ht; cases inR <;> simp [trCode] at ht

end Go.Am
