/- The abstract machine's code does what the model's does: regions, loops, bodies. -/
import Derived.Test.YtklmggpiehmpdaaAm19
import Derived.Scope
set_option linter.unusedVariables false
set_option linter.unusedSimpArgs false
namespace Go.Am
variable {P : Program}

def trOps (P : Program) (al : List Nat) (ops : Array Oper) : List Oper → Option (List AOper)
  | [] => some []
  | o :: os => match trOper P al ops o, trOps P al ops os with | some a, some as => some (a :: as) | _, _ => none

def pairsOf (pureF : FuncId → FMode) (ops : Array Oper) (as : List AOper) : List (AOper × List Nat) :=
  as.zipIdx.map fun (a, m) => (a, (List.range m).filter fun q =>
    match as[q]? with
    | some aq => !edge ops m q && !statOk pureF aq a
    | _ => true)

def trRegion (P : Program) (pureF : FuncId → FMode) (al : List Nat) (ops : Array Oper) (draw : Bool) : Option ACode :=
  match trOps P al ops ops.toList with
  | none => none
  | some as =>
    match draw with
    | false => some (.region as)
    | true => if drawOk pureF ops (pairsOf pureF ops as) then some (.draw (pairsOf pureF ops as)) else none

/-- Which slots are given up where: a tree beside the code's. -/
inductive LT where
  | nil
  | node (l : List Nat) (a b : LT)

def LT.here : LT → List Nat
  | .nil => []
  | .node l _ _ => l

def LT.fst : LT → LT
  | .nil => .nil
  | .node _ a _ => a

def LT.snd : LT → LT
  | .nil => .nil
  | .node _ _ b => b

def withClr (l : List Nat) (c : ACode) : ACode := match l with | [] => c | l => .seq c (.clr l)

def preClr (l : List Nat) (c : ACode) : ACode := match l with | [] => c | l => .seq (.clr l) c

def trCode (P : Program) (pureF : FuncId → FMode) (al : List Nat) : LT → Code → Option ACode
  | _, .skip | _, .label _ => some .skip
  | lt, .region _ ops draw => (trRegion P pureF al ops draw).map (withClr lt.here)
  | lt, .seq a b => match trCode P pureF al lt.fst a, trCode P pureF al lt.snd b with | some a, some b => some (.seq a b) | _, _ => none
  | lt, .cond c a b => match trOpd c, trCode P pureF al lt.fst.fst a, trCode P pureF al lt.snd.fst b with | some c, some a, some b => some (.cond c (preClr lt.fst.here a) (preClr lt.snd.here b)) | _, _, _ => none
  | lt, .block id b => (trCode P pureF al lt.fst b).map (.block id)
  | lt, .loop b => (trCode P pureF al lt.fst b).map (.loop lt.here lt.snd.here)
  | lt, .scope b => trCode P pureF al lt b
  | _, .exit id => some (.exit id)
  | _, .ret => some .ret
  | _, _ => none

theorem trOps_get {al : List Nat} {ops : Array Oper} : ∀ {l : List Oper} {as : List AOper}, trOps P al ops l = some as → as.length = l.length ∧ ∀ (i : Nat) (a : AOper), as[i]? = some a → ∃ o, l[i]? = some o ∧ trOper P al ops o = some a
  | [], as, h => by simp [trOps] at h; subst h; simp
  | o :: l, as, h => by
    simp only [trOps] at h
    split at h
    · rename_i a as' h1 h2
      cases h
      obtain ⟨e1, e2⟩ := trOps_get h2
      refine ⟨by simp [e1], fun i b hi => ?_⟩
      cases i with
      | zero => simp at hi; subst hi; exact ⟨o, rfl, h1⟩
      | succ i => simp at hi ⊢; exact e2 i b hi
    · cases h

/-! ### A scope that no jump crosses, inside a fence -/
section scope
variable {F : Fence} {n : Nat} {b : Frame} {a : Act} {k : List Item} {cs : List Frame} {w : World} {Q : Exit → Act → World → Prop}

theorem stepR_scope {c : Code} : step P (lone (b.atR a (.code (.scope c) :: k)) cs w) = .next (lone (b.atR a (.code c :: .inScope c :: k)) cs w) :=
  step_lone_go (by simp [stepG, stepG.exec, Frame.atR])
theorem stepR_inScope {c : Code} : step P (lone (b.atR a (.inScope c :: k)) cs w) = .next (lone (b.atR a k) cs w) :=
  step_lone_go (by simp [stepG, stepG.exec, Frame.atR])

theorem wpIn_scope_straight {c : Code} (h : c.wpIn F n P (Exit.noGoto Q) a w) : (Code.scope c).wpIn F n P Q a w := by
  intro b k cs hro hb hr
  have h0 : (lone (b.atR a (.code (.scope c) :: k)) cs w).fenced P F := fenced_calm hb hr rfl
  obtain ⟨e, a₁, w₁, hq, harr⟩ := h b (.inScope c :: k) cs hro hb hr
  cases e with
  | normal => exact ⟨.normal, a₁, w₁, hq, .head h0 stepR_scope (StepsIn.trans harr (.one (fenced_calm hb hr rfl) stepR_inScope))⟩
  | exit id =>
    have hx : exitTo id (.inScope c :: k) = exitTo id k := by simp [exitTo]
    exact ⟨.exit id, a₁, w₁, hq, fun k' hk => .head h0 stepR_scope (harr.1 k' (by rw [hx]; exact hk)),
      fun hr' hk => let ⟨k₁, h1, h2⟩ := harr.2 hr' (by rw [hx]; exact hk); ⟨k₁, h1, .head h0 stepR_scope h2⟩⟩
  | goto l => exact hq.elim
  | ret => exact ⟨_, a₁, w₁, hq, .of_steps (.one h0 stepR_scope) harr⟩
  | panic ch => exact ⟨_, a₁, w₁, hq, .of_steps (.one h0 stepR_scope) harr⟩
  | outgrown => exact ⟨_, a₁, w₁, hq, .of_steps (.one h0 stepR_scope) harr⟩
end scope

/-- Operations in a row. -/
theorem sim_ops {call : Caller} (hcall : CallOk P call) {fb : Nat} {al : List Nat} {ops : Array Oper} {rd : Option Nat} {nn : Nat} {Q : Exit → Act → World → Prop} {d0 : List Deferred} : ∀ (l : List Oper) (as : List AOper) (g : G) (h : Heap) (w : World) (t : List V) (a : Act) (t' : List V) (h' : Heap),
    trOps P al ops l = some as → runOps call fb as t h = some (t', h') → Sim g h w → TRel g w t a.tmps → a.defers = d0 →
    (∀ g' w' a', Sim g' h' w' → Ext g h w g' h' w' → TRel g' w' t' a'.tmps → a'.defers = d0 → Q .normal a' w') → wpListIn (FR rd) nn P ops Q l a w
  | [], as, g, h, w, t, a, t', h', ht, hr, s, r, hd, hQ => by
    simp [trOps] at ht
    subst ht
    simp only [runOps, Option.some.injEq, Prod.mk.injEq] at hr
    obtain ⟨rfl, rfl⟩ := hr
    exact hQ g w a s (Ext.refl _ _ _) r hd
  | o :: l, as, g, h, w, t, a, t', h', ht, hr, s, r, hd, hQ => by
    simp only [trOps] at ht
    split at ht
    case h_2 => cases ht
    rename_i ao as' h1 h2
    cases ht
    simp only [runOps] at hr
    split at hr
    case h_2 => cases hr
    rename_i t1 k1 hst
    have := sim_step hcall (fb := fb) s r h1 hst (rd := rd) (n := nn) (K := wpListIn (FR rd) nn P ops Q l) (Q := Q) (fun g' w' a' q1 q2 q3 q4 =>
      sim_ops hcall l as' g' k1 w' t1 a' t' h' h2 hr q1 q3 (q4.trans hd) (fun g2 w2 a2 p1 p2 p3 p4 => hQ g2 w2 a2 p1 (q2.trans p2) p3 p4))
    simp only [wpListIn]
    exact this

/-- A region whose order is open. -/
theorem sim_any {call : Caller} (hcall : CallOk P call) {fb : Nat} {al : List Nat} {ops : Array Oper} {as : List AOper} (has : trOps P al ops ops.toList = some as) {rd : Option Nat} {nn : Nat} {Q : Exit → Act → World → Prop} {d0 : List Deferred} {fin : List V × Heap → Prop} {C : Nat → List V → Prop} :
    ∀ (fuel : Nat) (listed : Array Bool) (g : G) (h : Heap) (w : World) (t : List V) (a : Act), AnyA call fb ops as fin C fuel listed (t, h) → Sim g h w → TRel g w t a.tmps → a.defers = d0 →
    (∀ t' h' g' w' a', fin (t', h') → Sim g' h' w' → Ext g h w g' h' w' → TRel g' w' t' a'.tmps → a'.defers = d0 → Q .normal a' w') → wpAnyIn (FR rd) nn P .any ops Q fuel listed a w
  | 0, listed, g, h, w, t, a, H, s, r, hd, hQ => ⟨H.1, hQ _ _ g w a H.2 s (Ext.refl _ _ _) r hd⟩
  | fuel + 1, listed, g, h, w, t, a, H, s, r, hd, hQ => by
    refine ⟨fun h0 => hQ _ _ g w a (H.1 h0) s (Ext.refl _ _ _) r hd, fun i hi => ?_⟩
    obtain ⟨-, ao, ⟨t1, k1⟩, hao, hst, H'⟩ := H.2 i hi
    obtain ⟨o, ho, hto⟩ := (trOps_get has).2 i ao hao
    have ho' : ops[i]? = some o := by simpa using ho
    have := sim_step hcall (fb := fb) s r hto hst (rd := rd) (n := nn) (K := wpAnyIn (FR rd) nn P .any ops Q fuel (listed.setIfInBounds i true)) (Q := Q) (fun g' w' a' q1 q2 q3 q4 =>
      sim_any hcall has fuel _ g' k1 w' t1 a' H' q1 q3 (q4.trans hd) (fun t2 h2 g2 w2 a2 p0 p1 p2 p3 p4 => hQ t2 h2 g2 w2 a2 p0 p1 (q2.trans p2) p3 p4))
    unfold wpOpIn
    simp only [ho']
    exact this

theorem TRel.clear {g : G} {w : World} : ∀ (clr : List Nat) {t : List V} {tmps : Array Value}, TRel g w t tmps → TRel g w (clear clr t) tmps
  | [], t, tmps, r => r
  | c :: clr, t, tmps, r => by
    have : TRel g w (t.set c .junk) tmps := ⟨by simp [r.1], fun i v hi => by
      by_cases h : c = i
      · subst h
        rcases Nat.lt_or_ge c t.length with hlt | hge
        · rw [List.getElem?_set_self hlt] at hi
          cases hi
          exact .junk _
        · rw [List.getElem?_eq_none (by simpa using hge)] at hi
          cases hi
      · rw [List.getElem?_set_ne h] at hi
        exact r.2 i v hi⟩
    exact TRel.clear clr this

/-- An object is given up. -/
theorem sim_kill1 {g : G} {h : Heap} {w : World} (s : Sim g h w) {o : Nat} {x : Ob} (hx : h[o]? = some x) : Sim g (h.set o ⟨x.ver, .dead⟩) w ∧ Ext g h w g (h.set o ⟨x.ver, .dead⟩) w := by
  have hlt : o < h.length := by
    rcases Nat.lt_or_ge o h.length with h1 | h1
    · exact h1
    · simp [List.getElem?_eq_none h1] at hx
  have hself : (h.set o ⟨x.ver, .dead⟩)[o]? = some ⟨x.ver, .dead⟩ := by simp [hlt]
  have hother : ∀ i, i ≠ o → (h.set o ⟨x.ver, .dead⟩)[i]? = h[i]? := fun i hi => List.getElem?_set_ne (Ne.symm hi)
  have hblk : ∀ i b, blk g (h.set o ⟨x.ver, .dead⟩) i = some b → blk g h i = some b := by
    intro i b hb
    by_cases hi : i = o
    · subst hi
      simp [blk, hself, Bd.lives] at hb
    · simpa [blk, hother i hi] using hb
  refine ⟨⟨fun i y hy hl => ?_, fun i j b h1 h2 => s.inj i j b (hblk _ _ h1) (hblk _ _ h2), fun i b hb => s.imm i b (hblk _ _ hb), s.immlt, fun i t b hg => ?_⟩,
    ⟨rfl, fun _ _ _ h => h, fun _ h => h, fun _ h => .inl h, Nat.le_refl _, fun _ _ h => h, fun _ _ _ => rfl, fun i b hb _ => ⟨i, hblk _ _ hb⟩, rfl, rfl, rfl⟩⟩
  · by_cases hi : i = o
    · subst hi
      rw [hself] at hy
      cases hy
      cases hl
    · rw [hother i hi] at hy
      exact s.obs i y hy hl
  · obtain ⟨y, hy, ht⟩ := s.loclt i t b hg
    by_cases hi : i = o
    · subst hi
      rw [hx] at hy
      cases hy
      exact ⟨_, hself, ht⟩
    · exact ⟨y, by rw [hother i hi]; exact hy, ht⟩

theorem sim_kill {g : G} {w : World} (fb : Nat) : ∀ (kill : List Nat) {h : Heap}, Sim g h w → Sim g (killA fb kill h) w ∧ Ext g h w g (killA fb kill h) w
  | [], h, s => ⟨s, Ext.refl _ _ _⟩
  | k :: kill, h, s => by
    have step : Sim g (match h[fb + k]? with | some x => h.set (fb + k) ⟨x.ver, .dead⟩ | none => h) w ∧ Ext g h w g (match h[fb + k]? with | some x => h.set (fb + k) ⟨x.ver, .dead⟩ | none => h) w := by
      cases hx : h[fb + k]? with
      | none => exact ⟨s, Ext.refl _ _ _⟩
      | some x => exact sim_kill1 s hx
    obtain ⟨h1, h2⟩ := sim_kill fb kill step.1
    exact ⟨h1, step.2.trans h2⟩

def Ex.to : Ex → Exit
  | .norm => .normal
  | .exit id => .exit id
  | .ret => .ret

theorem sim_code {pureF : FuncId → FMode} {call : Caller} (hm : P.follows .mixedOrders = true) (hcall : CallOk P call) (hpure : PureOk pureF call) {N fb : Nat} {al : List Nat} {rd : Option Nat} {nn : Nat} {d0 : List Deferred} :
    ∀ (c : Code) (lt : LT) (ac : ACode), trCode P pureF al lt c = some ac → ∀ (g : G) (h : Heap) (w : World) (t : List V) (a : Act) (x : Ex) (t' : List V) (h' : Heap) (Q : Exit → Act → World → Prop),
    exec pureF call N fb ac t h = some (x, t', h') → Sim g h w → TRel g w t a.tmps → a.defers = d0 →
    (∀ g' w' a', Sim g' h' w' → Ext g h w g' h' w' → TRel g' w' t' a'.tmps → a'.defers = d0 → Q x.to a' w') → c.wpIn (FR rd) nn P Q a w := by
  intro c
  induction c with
  | skip =>
    intro lt ac ht g h w t a x t' h' Q he s r hd hQ
    simp only [trCode, Option.some.injEq] at ht
    subst ht
    simp only [exec, Option.some.injEq, Prod.mk.injEq] at he
    obtain ⟨rfl, rfl, rfl⟩ := he
    exact wpIn_skip (hQ g w a s (Ext.refl _ _ _) r hd)
  | label l =>
    intro lt ac ht g h w t a x t' h' Q he s r hd hQ
    simp only [trCode, Option.some.injEq] at ht
    subst ht
    simp only [exec, Option.some.injEq, Prod.mk.injEq] at he
    obtain ⟨rfl, rfl, rfl⟩ := he
    exact wpIn_label (hQ g w a s (Ext.refl _ _ _) r hd)
  | exit id =>
    intro lt ac ht g h w t a x t' h' Q he s r hd hQ
    simp only [trCode, Option.some.injEq] at ht
    subst ht
    simp only [exec, Option.some.injEq, Prod.mk.injEq] at he
    obtain ⟨rfl, rfl, rfl⟩ := he
    exact wpIn_exit (hQ g w a s (Ext.refl _ _ _) r hd)
  | ret =>
    intro lt ac ht g h w t a x t' h' Q he s r hd hQ
    simp only [trCode, Option.some.injEq] at ht
    subst ht
    simp only [exec, Option.some.injEq, Prod.mk.injEq] at he
    obtain ⟨rfl, rfl, rfl⟩ := he
    exact wpIn_ret (hQ g w a s (Ext.refl _ _ _) r hd)
  | region id ops draw =>
    intro lt ac ht g h w t a x t' h' Q he s r hd hQ
    simp only [trCode, Option.map_eq_some_iff] at ht
    obtain ⟨a0, ht, rfl⟩ := ht
    have main : ∀ (t1 : List V) (k1 : Heap), exec pureF call N fb a0 t h = some (.norm, t1, k1) → ∀ (Q : Exit → Act → World → Prop),
        (∀ g' w' a', Sim g' k1 w' → Ext g h w g' k1 w' → TRel g' w' t1 a'.tmps → a'.defers = d0 → Q .normal a' w') → (Code.region id ops draw).wpIn (FR rd) nn P Q a w := by
      intro t1 k1 he Q hQ
      simp only [trRegion] at ht
      split at ht
      · cases ht
      rename_i as has
      cases draw with
      | false =>
        simp only [Option.some.injEq] at ht
        subst ht
        simp only [exec] at he
        split at he
        · rename_i t2 k2 hr
          simp only [Option.some.injEq, Prod.mk.injEq, true_and] at he
          obtain ⟨rfl, rfl⟩ := he
          exact wpIn_region_list (sim_ops hcall ops.toList as g h w t a _ _ has hr s r hd hQ)
        · cases he
      | true =>
        simp only at ht
        split at ht
        · rename_i hok
          simp only [Option.some.injEq] at ht
          subst ht
          simp only [exec] at he
          split at he
          · rename_i t2 k2 hr
            simp only [Option.some.injEq, Prod.mk.injEq, true_and] at he
            obtain ⟨rfl, rfl⟩ := he
            have hA := drawA (fb := fb) (frameC_pure hpure) (frameC_look hpure) frameC_frame hok (pairsOf pureF ops as) 0 [] (t, h) rfl (Nat.zero_le _) rfl (fun q _ _ hq => by omega) (Nat.le_refl _) hr
            have e1 : (pairsOf pureF ops as).map (·.1) = as := by
              unfold pairsOf
              rw [List.map_map]
              apply List.ext_getElem?
              intro i
              simp [List.getElem?_zipIdx]
              cases as[i]? <;> rfl
            have e2 : firstB ops.size 0 = Array.replicate ops.size false := by
              apply Array.ext'
              simp only [firstB, Nat.not_lt_zero, decide_false, Array.toList_replicate]
              rw [List.map_const', List.length_range]
            rw [e1, e2, Nat.sub_zero] at hA
            refine wpIn_region_any hm (sim_any (frameC_ok hcall) has ops.size _ g h { w with drawn := w.drawn + 1 } t a hA (s.drew _) ?_ hd ?_)
            · exact r.ext (Ext.drew g h w _) s
            · rintro t2 h2 g2 w2 a2 hf p1 p2 p3 p4
              cases hf
              exact hQ g2 w2 a2 p1 ((Ext.drew g h w _).trans p2) p3 p4
          · cases he
        · cases ht
    have norm : ∀ {x t1 k1}, exec pureF call N fb a0 t h = some (x, t1, k1) → x = .norm := by
      intro x t1 k1 he
      simp only [trRegion] at ht
      split at ht
      · cases ht
      cases draw with
      | false =>
        simp only [Option.some.injEq] at ht
        subst ht
        simp only [exec] at he
        split at he <;> cases he
        rfl
      | true =>
        simp only at ht
        split at ht
        · simp only [Option.some.injEq] at ht
          subst ht
          simp only [exec] at he
          split at he <;> cases he
          rfl
        · cases ht
    cases hl : lt.here with
    | nil =>
      simp only [hl, withClr] at he
      have := norm he
      subst this
      exact main t' h' he Q hQ
    | cons d ds =>
      simp only [hl, withClr, exec] at he
      split at he
      · rename_i t1 k1 hr
        simp only [Option.some.injEq, Prod.mk.injEq] at he
        obtain ⟨rfl, rfl, rfl⟩ := he
        exact main t1 k1 hr Q (fun g' w' a' q1 q2 q3 q4 => hQ g' w' a' q1 q2 (q3.clear _) q4)
      · rename_i hne
        have := norm he
        subst this
        exact absurd he (hne _ _)
  | seq c1 c2 ih1 ih2 =>
    intro lt ac ht g h w t a x t' h' Q he s r hd hQ
    simp only [trCode] at ht
    split at ht
    case h_2 => cases ht
    rename_i a1 a2 h1 h2
    cases ht
    simp only [exec] at he
    refine wpIn_seq ?_
    split at he
    · rename_i t1 k1 hr
      exact ih1 _ a1 h1 g h w t a _ _ _ _ hr s r hd (fun g' w' a' q1 q2 q3 q4 => ih2 _ a2 h2 g' k1 w' t1 a' x t' h' Q he q1 q3 q4 (fun g2 w2 a3 p1 p2 p3 p4 => hQ g2 w2 a3 p1 (q2.trans p2) p3 p4))
    · rename_i hne
      refine ih1 _ a1 h1 g h w t a x t' h' _ he s r hd (fun g' w' a' q1 q2 q3 q4 => ?_)
      cases x with
      | norm => exact absurd he (hne _ _)
      | exit id => exact hQ g' w' a' q1 q2 q3 q4
      | ret => exact hQ g' w' a' q1 q2 q3 q4
  | cond cnd c1 c2 ih1 ih2 =>
    intro lt ac ht g h w t a x t' h' Q he s r hd hQ
    simp only [trCode] at ht
    split at ht
    case h_2 => cases ht
    rename_i o a1 a2 h0 h1 h2
    cases ht
    have pre : ∀ (l : List Nat) (ac : ACode), exec pureF call N fb (preClr l ac) t h = some (x, t', h') → ∃ t0, exec pureF call N fb ac t0 h = some (x, t', h') ∧ TRel g w t0 a.tmps := by
      intro l ac he
      cases l with
      | nil => exact ⟨t, he, r⟩
      | cons d ds => exact ⟨_, he, r.clear _⟩
    simp only [exec] at he
    have hr := r.opd _ _ h0
    split at he
    · rename_i hv
      rw [hv] at hr
      obtain ⟨t0, he, r0⟩ := pre _ _ he
      refine wpIn_cond_true ?_ (ih1 _ a1 h1 g h w t0 a x t' h' Q he s r0 hd hQ)
      generalize a.eval cnd = X at hr
      cases hr
      rfl
    · rename_i hv
      rw [hv] at hr
      obtain ⟨t0, he, r0⟩ := pre _ _ he
      refine wpIn_cond_false ?_ (ih2 _ a2 h2 g h w t0 a x t' h' Q he s r0 hd hQ)
      generalize a.eval cnd = X at hr
      cases hr
      rfl
    · cases he
  | block id c ih =>
    intro lt ac ht g h w t a x t' h' Q he s r hd hQ
    simp only [trCode, Option.map_eq_some_iff] at ht
    obtain ⟨a1, h1, rfl⟩ := ht
    simp only [exec] at he
    refine wpIn_block ?_
    split at he
    · rename_i i t1 k1 hr
      refine ih _ a1 h1 g h w t a _ _ _ _ hr s r hd (fun g' w' a' q1 q2 q3 q4 => ?_)
      show Exit.inBlock id Q (.exit i) a' w'
      simp only [Exit.inBlock]
      split at he
      · rename_i hi
        simp only [Option.some.injEq, Prod.mk.injEq] at he
        obtain ⟨rfl, rfl, rfl⟩ := he
        rw [if_pos hi]
        exact hQ g' w' a' q1 q2 q3 q4
      · rename_i hi
        simp only [Option.some.injEq, Prod.mk.injEq] at he
        obtain ⟨rfl, rfl, rfl⟩ := he
        rw [if_neg hi]
        exact hQ g' w' a' q1 q2 q3 q4
    · rename_i hne
      refine ih _ a1 h1 g h w t a x t' h' _ he s r hd (fun g' w' a' q1 q2 q3 q4 => ?_)
      cases x with
      | norm => exact hQ g' w' a' q1 q2 q3 q4
      | exit i => exact absurd he (hne _ _ _)
      | ret => exact hQ g' w' a' q1 q2 q3 q4
  | scope c ih =>
    intro lt ac ht g h w t a x t' h' Q he s r hd hQ
    simp only [trCode] at ht
    refine wpIn_scope_straight (ih lt ac ht g h w t a x t' h' _ he s r hd (fun g' w' a' q1 q2 q3 q4 => ?_))
    cases x <;> exact hQ g' w' a' q1 q2 q3 q4
  | loop c ih =>
    intro lt ac ht g h w t a x t' h' Q he s r hd hQ
    simp only [trCode, Option.map_eq_some_iff] at ht
    obtain ⟨a1, h1, rfl⟩ := ht
    simp only [exec] at he
    have key : ∀ (n : Nat) (g0 : G) (h0 : Heap) (w0 : World) (t0 : List V) (a0 : Act), loopN (exec pureF call N fb a1) (fun t h => (clear lt.here t, killA fb lt.snd.here h)) n t0 h0 = some (x, t', h') → Sim g0 h0 w0 → Ext g h w g0 h0 w0 → TRel g0 w0 t0 a0.tmps → a0.defers = d0 →
        Code.roundsIn (FR rd) nn P c Q n a0 w0 := by
      intro n
      induction n with
      | zero => intro g0 h0 w0 t0 a0 he0; simp [loopN] at he0
      | succ n ihn =>
        intro g0 h0 w0 t0 a0 he0 s0 x0 r0 d0'
        simp only [loopN] at he0
        obtain ⟨sk, xk⟩ := sim_kill fb lt.snd.here s0
        rw [roundsIn_succ]
        split at he0
        · rename_i t1 k1 hr
          exact ih _ a1 h1 g0 _ w0 _ a0 _ _ _ _ hr sk (r0.clear _) d0' (fun g' w' a' q1 q2 q3 q4 => ihn g' k1 w' t1 a' he0 q1 ((x0.trans xk).trans q2) q3 q4)
        · rename_i hne
          refine ih _ a1 h1 g0 _ w0 _ a0 x t' h' _ he0 sk (r0.clear _) d0' (fun g' w' a' q1 q2 q3 q4 => ?_)
          cases x with
          | norm => exact absurd he0 (hne _ _)
          | exit i => exact hQ g' w' a' q1 ((x0.trans xk).trans q2) q3 q4
          | ret => exact hQ g' w' a' q1 ((x0.trans xk).trans q2) q3 q4
    exact wpIn_loop_rounds N (key N g h w t a he s (Ext.refl _ _ _) r hd)
  | _ => intro lt ac ht; simp [trCode] at ht

end Go.Am
