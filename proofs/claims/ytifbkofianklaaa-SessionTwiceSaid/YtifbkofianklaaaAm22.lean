/- The whole machine: functions that call functions; and that what it answers the model answers. -/
import Derived.Test.YtifbkofianklaaaAm21
set_option linter.unusedVariables false
set_option linter.unusedSimpArgs false
namespace Go.Am
variable {P : Program}

def resA1 (get : Nat → Option Ob) (t : List V) : ARes → Option V
  | .tmp i => some (t.getD i .junk)
  | .cell i ag => (loadA get (nAg ag) (t.getD i .junk)).bind (packA ag)

def resA (get : Nat → Option Ob) (t : List V) : List ARes → Option (List V)
  | [] => some []
  | r :: rs => match resA1 get t r, resA get t rs with | some v, some vs => some (v :: vs) | _, _ => none

def packR : List V → V
  | [v] => v
  | vs => .tup vs

abbrev AProg := List (Option AFunc)

def pureOf (p : AProg) (f : FuncId) : FMode := match p[f]? with | some (some fn) => fn.mode | _ => .keep

def bodyA (p : AProg) (call : Caller) (N fb : Nat) (fn : AFunc) (args : List V) (h : Heap) : Option (V × Heap) :=
  match exec (pureOf p) call N fb fn.body (args ++ List.replicate (fn.nt - args.length) .junk) h with
  | some (.norm, t, h') => match resA (fun o => h'[o]?) t fn.res with | some vs => some (packR vs, h') | none => none
  | some (.ret, t, h') => match resA (fun o => h'[o]?) t fn.res with | some vs => some (packR vs, h') | none => none
  | _ => none

def deads (n : Nat) : Heap := List.replicate n ⟨0, .dead⟩

/-- How deep results may be nested. -/
def sealDepth : Nat := 64

/-- A round: 'yield' is called. -/
def yieldA (p : AProg) (call : Caller) (N : Nat) (args : List V) (h : Heap) : Option (V × Heap) :=
  match args with
  | .yld o ver :: xs =>
    match h[o]? with
    | some ⟨v, .loop _ _ t fb f k⟩ =>
      if v = ver then
        match p[f]? with
        | some (some af) =>
          match (rangesA af.body)[k]? with
          | some (ps, asn, body) =>
            if xs.length = ps.length then
              match exec (pureOf p) call N fb asn (setPs ps xs t) h with
              | some (.norm, t1, h1) =>
                match h1[o]? with
                | some ⟨v1, .loop 0 p1 t2 fb2 f2 k2⟩ =>
                  if v1 = ver then
                    match exec (pureOf p) call N fb body t1 (h1.set o ⟨ver, .loop 1 p1 t2 fb2 f2 k2⟩) with
                    | some (x, _, h2) =>
                      match h2[o]? with
                      | some ⟨v2, .loop _ _ t3 fb3 f3 k3⟩ =>
                        if v2 = ver then
                          match x with
                          | .norm => some (.bool true, h2.set o ⟨ver, .loop 0 none t3 fb3 f3 k3⟩)
                          | .exit id => some (.bool false, h2.set o ⟨ver, .loop 2 (some (some id)) t3 fb3 f3 k3⟩)
                          | .ret => some (.bool false, h2.set o ⟨ver, .loop 2 (some none) t3 fb3 f3 k3⟩)
                        else none
                      | _ => none
                    | none => none
                  else none
                | _ => none
              | _ => none
            else none
          | none => none
        | _ => none
      else none
    | _ => none
  | _ => none

def callA (p : AProg) (N : Nat) : Nat → Caller
  | 0, _, _, _ => none
  | n + 1, f, args, h =>
    if f = YLD then yieldA p (callA p N n) N args h else
    match p[f]? with
    | some (some fn) =>
      if args.length = fn.nargs then
        match fn.mode with
        | .keep => bodyA p (callA p N n) N h.length fn args (h ++ deads fn.sites)
        | .auto =>
          if V.freeL args then
            match bodyA p (callA p N n) N 0 fn args (deads fn.sites) with
            | some (v, h') => match V.shut (fun o => h'[o]?) sealDepth v with | some v' => some (v', h) | none => none
            | none => none
          else bodyA p (callA p N n) N h.length fn args (h ++ deads fn.sites)
        | .pure =>
          if V.freeL args then
            match bodyA p (callA p N n) N 0 fn args (deads fn.sites) with
            | some (v, h') => match V.shut (fun o => h'[o]?) sealDepth v with | some v' => some (v', h) | none => none
            | none => none
          else none
        | .look =>
          match args.mapM (V.shut (fun o => h[o]?) sealDepth) with
          | some args' =>
            match bodyA p (callA p N n) N 0 fn args' (deads fn.sites) with
            | some (v, _) => if v.plain then some (v, h) else none
            | none => none
          | none => none
      else none
    | _ => none

def trRes (P : Program) : ResultVar → Option ARes
  | .tmp t => some (.tmp t)
  | .cell a t => (agOf P t).map (.cell a)

/-- A function, in the abstract machine's words. -/
structure TrFunc (P : Program) (p : AProg) (f : Nat) (fn : Func) (af : AFunc) : Prop where
  named : (fn.name == "runtime.NumGoroutine") = false
  body : ∃ c al lt, fn.body = some c ∧ trCode P (pureOf p) al f false 0 lt c = some af.body
  nt : af.nt = fn.ntmps
  res : fn.results.toList.mapM (trRes P) = some af.res

def TrProg (P : Program) (p : AProg) : Prop := ∀ (f : Nat) (af : AFunc), p[f]? = some (some af) → ∃ fn, P.funcs[f]? = some fn ∧ TrFunc P p f fn af

theorem sim_empty {g : G} {h : Heap} {w : World} (s : Sim g h w) (n : Nat) : Sim ⟨fun _ _ => none, g.imm, g.code⟩ (deads n) w := by
  have hd : ∀ (o : Nat) (x : Ob), (deads n)[o]? = some x → x.bd.lives = false := fun o x hx => by
    simp only [deads, List.getElem?_replicate] at hx
    split at hx
    · cases hx; rfl
    · cases hx
  refine ⟨fun o x hx hl => ?_, fun o o' b h1 => ?_, fun o b h1 => ?_, s.immlt, fun o t b h1 => by cases h1⟩
  · rw [hd o x hx] at hl; cases hl
  · obtain ⟨x, base, hx, hl, -⟩ := blk_some h1
    rw [hd o x hx] at hl; cases hl
  · obtain ⟨x, base, hx, hl, -⟩ := blk_some h1
    rw [hd o x hx] at hl; cases hl

theorem blk_deads (g : G) (n o b : Nat) : blk g (deads n) o ≠ some b := by
  intro h
  obtain ⟨x, base, hx, hl, -⟩ := blk_some h
  simp only [deads, List.getElem?_replicate] at hx
  split at hx
  · cases hx; cases hl
  · cases hx

theorem sim_grow {g : G} {h : Heap} {w : World} (s : Sim g h w) (n : Nat) : Sim g (h ++ deads n) w ∧ Ext g h w g (h ++ deads n) w := by
  have hget : ∀ (o : Nat) (x : Ob), (h ++ deads n)[o]? = some x → x.bd.lives = true → h[o]? = some x := fun o x hx hl => by
    rcases Nat.lt_or_ge o h.length with hlt | hge
    · rwa [List.getElem?_append_left hlt] at hx
    · rw [List.getElem?_append_right hge] at hx
      simp only [deads, List.getElem?_replicate] at hx
      split at hx
      · cases hx; cases hl
      · cases hx
  have hblk : ∀ o b, blk g (h ++ deads n) o = some b → blk g h o = some b := fun o b hb => by
    obtain ⟨x, base, hx, hl, hg⟩ := blk_some hb
    exact blk_of (hget o x hx hl) hl hg
  refine ⟨⟨fun o x hx hl => s.obs o x (hget o x hx hl) hl, fun o o' b h1 h2 => s.inj o o' b (hblk _ _ h1) (hblk _ _ h2), fun o b hb => s.imm o b (hblk _ _ hb), s.immlt, fun o t b hg => ?_⟩,
    ⟨rfl, fun _ _ _ h => h, fun _ h => h, fun _ h => .inl h, Nat.le_refl _, fun _ _ h => h, fun _ _ _ => rfl, fun o b hb _ => ⟨o, hblk _ _ hb⟩, rfl, rfl, rfl⟩⟩
  obtain ⟨x, hx, ht⟩ := s.loclt o t b hg
  have hlt : o < h.length := by
    rcases Nat.lt_or_ge o h.length with h1 | h1
    · exact h1
    · simp [List.getElem?_eq_none h1] at hx
  exact ⟨x, by rw [List.getElem?_append_left hlt]; exact hx, ht⟩

/-- Back from a call on a memory of its own. -/
theorem sim_back {g : G} {h : Heap} {w : World} (s : Sim g h w) {n : Nat} {g1 : G} {h1 : Heap} {w1 : World} (s1 : Sim g1 h1 w1) (e : Ext ⟨fun _ _ => none, g.imm, g.code⟩ (deads n) w g1 h1 w1) :
    let g2 : G := ⟨g.loc, fun b => g.imm b ∨ (w.heap.size ≤ b ∧ (sealG g1 h1).imm b), g.code⟩
    Sim g2 h w1 ∧ Ext g h w g2 h w1 ∧ ∀ b, (sealG g1 h1).imm b → g2.imm b := by
  intro g2
  have hsame : ∀ b, b < w.heap.size → w1.heap[b]? = w.heap[b]? := fun b hb => e.frame b hb (fun o => blk_deads _ _ _ _)
  have hL : Later g w g2 w1 := ⟨rfl, fun _ _ _ h => h, fun _ h => .inl h, fun b hb => hsame b (s.immlt b hb), e.shape⟩
  have hlt : ∀ o b, blk g h o = some b → b < w.heap.size := fun o b hb => by
    obtain ⟨x, base, hx, hl, hg⟩ := blk_some hb
    obtain ⟨b', base', hg', hlt, -⟩ := s.obs o x hx hl
    rw [hg] at hg'
    cases hg'
    exact hlt
  have himm : ∀ b, (sealG g1 h1).imm b → g2.imm b := by
    intro b hb
    rcases hb with hb | ⟨o, hb⟩
    · rcases e.imm' b hb with h' | h'
      · exact .inl h'
      · exact .inr ⟨h', .inl hb⟩
    · rcases Nat.lt_or_ge b w.heap.size with h' | h'
      · obtain ⟨o', ho'⟩ := e.own o b hb h'
        exact absurd ho' (blk_deads _ _ _ _)
      · exact .inr ⟨h', .inr ⟨o, hb⟩⟩
  refine ⟨⟨fun o x hx hl => ?_, s.inj, fun o b hb hi => ?_, fun b hb => ?_, s.loclt⟩,
    ⟨rfl, fun _ _ _ h => h, fun _ h => .inl h, fun b hb => ?_, e.size, e.shape, fun b hb _ => hsame b hb, fun o b hb _ => ⟨o, hb⟩, e.os, e.tape, e.output⟩, himm⟩
  · obtain ⟨b, base, h1, h2, h3⟩ := s.obs o x hx hl
    exact ⟨b, base, h1, Nat.lt_of_lt_of_le h2 e.size, h3.later hL (hsame b h2)⟩
  · rcases hi with hi | ⟨hi, -⟩
    · exact s.imm o b hb hi
    · have := hlt o b hb; omega
  · rcases hb with hb | ⟨-, hb⟩
    · exact Nat.lt_of_lt_of_le (s.immlt b hb) e.size
    · rcases hb with hb | ⟨o, hb⟩
      · exact s1.immlt b hb
      · obtain ⟨x, base, hx, hl, hg⟩ := blk_some hb
        obtain ⟨b', base', hg', hlt, -⟩ := s1.obs o x hx hl
        rw [hg] at hg'
        cases hg'
        exact hlt
  · rcases hb with hb | ⟨hb, -⟩
    · exact .inl hb
    · exact .inr hb

theorem load_runs {g : G} {h : Heap} {w : World} (s : Sim g h w) {p v : V} {x : Value} {t : TypeId} {ag : Option Nat} (ht : agOf P t = some ag) (hp : VRel g w p x)
    {cs : List V} (hl : loadA (fun o => h[o]?) (nAg ag) p = some cs) (hv : packA ag cs = some v) : ∃ a y, x = .pointer (some a) ∧ (loadVar t a).run P w = .ok y w ∧ VRel g w v y := by
  obtain ⟨b, off, xs, rfl, hxl, hcl, hcell, hrel⟩ := goes_loads s hp hl
  cases ag with
  | some n =>
    simp only [packA, Option.some.injEq] at hv
    subst hv
    have hxl' : xs.length = n := hxl
    refine ⟨_, _, rfl, ?_, hrel.agg⟩
    simp only [nAg, loadVar, Sem.run_bind, Result.andThen_ok, run_isAgg ht, Option.isSome_some, if_true, run_sizeOf_ag ht, run_loads hxl' hcell, Sem.run_pure]
  | none =>
    simp only [nAg] at hxl hcl
    obtain ⟨c, rfl⟩ : ∃ c, cs = [c] := by
      cases cs with
      | nil => simp at hcl
      | cons c cs => cases cs with
        | nil => exact ⟨c, rfl⟩
        | cons d cs => simp at hcl
    obtain ⟨y, rfl⟩ : ∃ y, xs = [y] := by
      cases xs with
      | nil => simp at hxl
      | cons c cs => cases cs with
        | nil => exact ⟨c, rfl⟩
        | cons d cs => simp at hxl
    simp only [packA, List.head?_cons, Option.some.injEq] at hv
    subst hv
    refine ⟨_, y, rfl, ?_, hrel.2 0 _ _ rfl rfl⟩
    have hc := hcell 0 y rfl
    simp only [Nat.add_zero] at hc
    simp [loadVar, run_isAgg ht, run_load, hc]

theorem run_results {g : G} {h : Heap} {w : World} (s : Sim g h w) {t : List V} {tmps : Array Value} (r : TRel g w t tmps) {fn : Func} {rs : List ARes} (hrs : fn.results.toList.mapM (trRes P) = some rs) {vs : List V} (hv : resA (fun o => h[o]?) t rs = some vs) :
    ∃ x, (results fn tmps).run P w = .ok x w ∧ VRel g w (packR vs) x := by
  have hslot : ∀ i, VRel g w (t.getD i .junk) (tmps.getD i undef) := fun i => by
    rcases Nat.lt_or_ge i t.length with h | h
    · rw [List.getD_eq_getElem?_getD, List.getElem?_eq_getElem h]
      exact r.2 i _ (List.getElem?_eq_getElem h)
    · rw [List.getD_eq_getElem?_getD, List.getElem?_eq_none h]
      exact .junk _
  have key : ∀ (F : ResultVar → Sem Value), (∀ i, F (.tmp i) = pure (tmps.getD i undef)) → (∀ i ty, F (.cell i ty) = do loadVar ty (← asAddr (tmps.getD i undef))) → ∀ (l : List ResultVar) (rs : List ARes) (vs : List V), l.mapM (trRes P) = some rs → resA (fun o => h[o]?) t rs = some vs →
      ∃ xs : List Value, (l.mapM F).run P w = .ok xs w ∧ Cells g w vs xs := by
    intro F F1 F2 l
    induction l with
    | nil =>
      intro rs vs h1 h2
      simp at h1
      subst h1
      simp [resA] at h2
      subst h2
      exact ⟨[], rfl, rfl, by simp⟩
    | cons a l ih =>
      intro rs vs h1 h2
      simp only [List.mapM_cons, Option.bind_eq_bind, Option.bind_eq_some_iff, Option.pure_def, Option.some.injEq] at h1
      obtain ⟨ra, hra, rl, hrl, rfl⟩ := h1
      simp only [resA] at h2
      split at h2
      case h_2 => cases h2
      rename_i v vs' e1 e2
      cases h2
      obtain ⟨xs, q1, q2⟩ := ih rl vs' hrl e2
      have one : ∃ x, (F a).run P w = .ok x w ∧ VRel g w v x := by
        cases a with
        | tmp i =>
          simp only [trRes, Option.some.injEq] at hra
          subst hra
          simp only [resA1, Option.some.injEq] at e1
          subst e1
          exact ⟨_, by rw [F1]; rfl, hslot i⟩
        | cell i ty =>
          simp only [trRes, Option.map_eq_some_iff] at hra
          obtain ⟨ag, hag, rfl⟩ := hra
          simp only [resA1, Option.bind_eq_some_iff] at e1
          obtain ⟨cs, hl, hp⟩ := e1
          obtain ⟨ad, x, hx, hrun, hr⟩ := load_runs (P := P) s hag (hslot i) hl hp
          refine ⟨x, ?_, hr⟩
          rw [F2, hx]
          simp [asAddr, hrun]
      obtain ⟨x, hx, hr⟩ := one
      refine ⟨x :: xs, ?_, ⟨by simp [q2.1], fun i c y hc hy => ?_⟩⟩
      · rw [List.mapM_cons]
        simp only [Sem.run_bind, hx, Result.andThen_ok, q1, Sem.run_pure]
      · cases i with
        | zero => simp at hc hy; subst hc; subst hy; exact hr
        | succ i => simp at hc hy; exact q2.2 i c y hc hy
  have hex : ∃ xs : List Value, (results fn tmps).run P w = .ok (if h : xs.toArray.size = 1 then xs.toArray[0] else .tuple xs.toArray) w ∧ Cells g w vs xs := by
    unfold results
    rw [Array.mapM_eq_mapM_toList]
    obtain ⟨xs, h1, h2⟩ := key (fun | .tmp t => pure (tmps.getD t undef) | .cell a t => do loadVar t (← asAddr (tmps.getD a undef))) (fun i => rfl) (fun i ty => rfl) _ _ _ hrs hv
    refine ⟨xs, ?_, h2⟩
    have e : ∀ (m : Sem (List Value)), (List.toArray <$> m).run P w = (m.run P w).andThen fun a w' => .ok a.toArray w' := fun m => by
      show ((m >>= fun a => pure a.toArray).run P w) = _
      rw [Sem.run_bind]
      congr 1
    rw [Sem.run_bind, e]
    erw [h1]
    rfl
  obtain ⟨xs, hrun, h2⟩ := hex
  refine ⟨_, hrun, ?_⟩
  have tup : ∀ (vs : List V) (xs : List Value), Cells g w vs xs → VRel g w (.tup vs) (.tuple xs.toArray) := by
    intro vs xs h
    have := h.agg
    cases this with
    | agg _ _ hx hc => exact .tup _ _ hx hc
  cases vs with
  | nil =>
    have hx : xs = [] := List.length_eq_zero_iff.1 h2.1
    subst hx
    exact tup [] [] h2
  | cons v vs =>
    cases vs with
    | nil =>
      obtain ⟨y, rfl⟩ : ∃ y, xs = [y] := by
        have := h2.1
        cases xs with
        | nil => simp at this
        | cons y ys => cases ys with
          | nil => exact ⟨y, rfl⟩
          | cons z zs => simp at this
      exact h2.2 0 v y rfl rfl
    | cons v' vs =>
      have hne : ¬ xs.toArray.size = 1 := by have := h2.1; simp at this ⊢; omega
      rw [dif_neg hne]
      exact tup _ _ h2

/-- A block for deferred calls is shut. -/
theorem sim_shutm {g : G} {h : Heap} {w : World} (s : Sim g h w) {r : Nat} (hr : w.heap[r]? = some (.deferred (some []))) (ho : ∀ o, blk g h o ≠ some r) (hi : ¬ g.imm r) :
    Sim g h (w.putObj r (.deferred none)) ∧ Later g w g (w.putObj r (.deferred none)) := by
  have hshape : ∀ k y, w.shape? k = some y → (w.putObj r (.deferred none)).shape? k = some y := by
    intro k y hk
    by_cases e : k = r
    · subst e
      simp [World.shape?, hr] at hk
    · unfold World.shape? at hk ⊢
      rw [World.putObj_heap_other e]
      exact hk
  have hL : Later g w g (w.putObj r (.deferred none)) := ⟨rfl, fun _ _ _ h => h, fun _ h => h, fun k hk => World.putObj_heap_other (fun e => hi (e ▸ hk)), hshape⟩
  refine ⟨⟨fun o x hx hl => ?_, s.inj, s.imm, fun b hb => by rw [World.putObj_size]; exact s.immlt b hb, s.loclt⟩, hL⟩
  obtain ⟨b, base, h1, h2, h3⟩ := s.obs o x hx hl
  refine ⟨b, base, h1, by rw [World.putObj_size]; exact h2, h3.later hL (World.putObj_heap_other ?_)⟩
  rintro rfl
  exact ho o (blk_of hx hl h1)

theorem Ext.shutm {g0 g : G} {h0 h : Heap} {w0 w : World} (e : Ext g0 h0 w0 g h w) {r : Nat} (hr : w.heap[r]? = some (.deferred (some []))) (hm : w0.heap.size ≤ r) : Ext g0 h0 w0 g h (w.putObj r (.deferred none)) := by
  refine ⟨e.code, e.loc, e.imm, e.imm', by rw [World.putObj_size]; exact e.size, fun k y hk => ?_, fun b hb hno => ?_, e.own, e.os, e.tape, e.output⟩
  · have := e.shape k y hk
    by_cases ek : k = r
    · subst ek
      simp [World.shape?, hr] at this
    · unfold World.shape? at this ⊢
      rw [World.putObj_heap_other ek]
      exact this
  · rw [World.putObj_heap_other (by omega)]
    exact e.frame b hb hno

/-- A body's end: the blocks for deferred calls are shut, the results are read. -/
theorem leaves_marks {g0 : G} {h0 : Heap} {w0 : World} {fn : Func} {F : Fence} {n : Nat} {tmps : Array Value} {t : List V} {rs : List ARes} (hrs : fn.results.toList.mapM (trRes P) = some rs) {g : G} {h : Heap} {vs : List V} (hv : resA (fun o => h[o]?) t rs = some vs)
    {R : Ending → World → Prop} (hR : ∀ w x, Sim g h w → Ext g0 h0 w0 g h w → VRel g w (packR vs) x → R (.returned x) w) :
    ∀ (L : List Nat) (w : World), Sim g h w → Ext g0 h0 w0 g h w → TRel g w t tmps → L.Nodup → (∀ r ∈ L, w0.heap.size ≤ r ∧ r < w.heap.size ∧ w.heap[r]? = some (.deferred (some [])) ∧ (∀ o, blk g h o ≠ some r) ∧ ¬ g.imm r) →
      LeavesInM F n P fn tmps R (L.map (fun r => ({ target := .collected r, args := #[] } : Deferred))) .returning w
  | [], w, s, e, r, _, _ => by
    obtain ⟨y, hy, hyr⟩ := run_results s r hrs hv
    exact ⟨y, hy, hR w y s e hyr⟩
  | d :: L, w, s, e, r, hn, hall => by
    obtain ⟨h1, h2, h3, h4, h5⟩ := hall d (by simp)
    obtain ⟨s', hL⟩ := sim_shutm s h3 h4 h5
    rw [List.nodup_cons] at hn
    refine ⟨by simp, .inl ⟨d, _, rfl, run_takeDeferred h3, leaves_marks hrs hv hR L _ s' (e.shutm h3 h1) ⟨r.1, fun i v hi => (r.2 i v hi).later hL⟩ hn.2 fun r' hr' => ?_⟩⟩
    obtain ⟨k1, k2, k3, k4, k5⟩ := hall r' (by simp [hr'])
    refine ⟨k1, by rw [World.putObj_size]; exact k2, ?_, k4, k5⟩
    have hne : r' ≠ d := by rintro rfl; exact hn.1 hr'
    rw [World.putObj_heap_other hne]
    exact k3

/-- A body. -/
theorem sim_body {p : AProg} (hm : P.follows .mixedOrders = true) {call : Caller} (hcall : CallOk P call) (hpure : PureOk (pureOf p) call) {N fb : Nat} {f : FuncId} {fn : Func} {af : AFunc} (hf : P.funcs[f]? = some fn) (ht : TrFunc P p f fn af)
    {args : List V} {h : Heap} {v : V} {h' : Heap} (hb : bodyA p call N fb af args h = some (v, h')) {g : G} {w : World} {xs : Array Value} (hgc : g.code = codesOf P) (s : Sim g h w) (hl : xs.size = args.length) (hx : ∀ i c, args[i]? = some c → VRel g w c (xs.getD i undef)) :
    Calls P f xs w fun e w' => ∃ x g', e = .returned x ∧ Sim g' h' w' ∧ Ext g h w g' h' w' ∧ VRel g' w' v x := by
  obtain ⟨c, al, hint, hc, htc⟩ := ht.body
  have hcd : ∀ i lc, (rangesOf c)[i]? = some lc → codesOf P f (0 + i) = some lc := fun i lc hi => by
    rw [Nat.zero_add]
    simp only [codesOf, hf, hc]
    exact hi
  have r : TRel g w (args ++ List.replicate (af.nt - args.length) .junk) (xs ++ Array.replicate (fn.ntmps - xs.size) undef) := by
    refine ⟨by simp [hl, ht.nt], fun i u hi => ?_⟩
    rcases Nat.lt_or_ge i args.length with hlt | hge
    · rw [List.getElem?_append_left hlt] at hi
      have := hx i u hi
      rw [Array.getD_eq_getD_getElem?] at this ⊢
      rw [Array.getElem?_append_left (by omega)]
      exact this
    · rw [List.getElem?_append_right hge, List.getElem?_replicate] at hi
      split at hi
      · cases hi
        exact .junk _
      · cases hi
  have post : ∀ (x : Ex) (t : List V) (vs : List V), x.to = .normal ∨ x.to = .ret → resA (fun o => h'[o]?) t af.res = some vs → v = packR vs → ∀ g' w' a', Sim g' h' w' → Ext g h w g' h' w' → TRel g' w' t a'.tmps → Mk w.heap.size g' h' w' a'.defers →
      bodyPostM (FR none) 0 P fn (fun e w' => ∃ x g', e = .returned x ∧ Sim g' h' w' ∧ Ext g h w g' h' w' ∧ VRel g' w' v x) x.to a' w' := by
    intro x t vs hx hr hv g' w' a' q1 q2 q3 q4
    obtain ⟨-, L, hL, hn, hall⟩ := q4
    subst hv
    have : LeavesInM (FR none) 0 P fn a'.tmps (fun e w' => ∃ x g', e = .returned x ∧ Sim g' h' w' ∧ Ext g h w g' h' w' ∧ VRel g' w' (packR vs) x) a'.defers .returning w' := by
      rw [hL]
      exact leaves_marks ht.res hr (fun w x s e hv => ⟨x, g', rfl, s, e, hv⟩) L w' q1 q2 q3 hn hall
    rcases hx with hx | hx <;> rw [hx] <;> exact this
  refine (callsIn_wide (n := 0)).1 (callsIn_of_wp_marks (F := FR none) hf hc trivial ?_)
  unfold bodyA at hb
  split at hb
  · rename_i t k he
    split at hb
    · rename_i vs hr
      simp only [Option.some.injEq, Prod.mk.injEq] at hb
      obtain ⟨rfl, rfl⟩ := hb
      exact sim_code (rd := none) (nn := 0) (inR := false) hm hcall hpure (fun _ => rfl) c 0 hint af.body htc hcd g h w _ _ _ _ _ _ he hgc s r (Mk.nil (Nat.le_refl _)) (post .norm t vs (.inl rfl) hr rfl)
    · cases hb
  · rename_i t k he
    split at hb
    · rename_i vs hr
      simp only [Option.some.injEq, Prod.mk.injEq] at hb
      obtain ⟨rfl, rfl⟩ := hb
      exact sim_code (rd := none) (nn := 0) (inR := false) hm hcall hpure (fun _ => rfl) c 0 hint af.body htc hcd g h w _ _ _ _ _ _ he hgc s r (Mk.nil (Nat.le_refl _)) (post .ret t vs (.inr rfl) hr rfl)
    · cases hb
  · cases hb

theorem callA_pure (p : AProg) (N n : Nat) : PureOk (pureOf p) (callA p N n) := by
  constructor
  · intro f args h v h1 hny hp hc
    cases n with
    | zero => simp [callA] at hc
    | succ n =>
      unfold pureOf at hp
      cases hfn : p[f]? with
      | none => simp [hfn] at hp
      | some o =>
        cases o with
        | none => simp [hfn] at hp
        | some fn =>
          simp only [hfn] at hp
          have e : ∀ h, callA p N (n + 1) f args h = if args.length = fn.nargs then if V.freeL args then
              match bodyA p (callA p N n) N 0 fn args (deads fn.sites) with
              | some (v, h') => match V.shut (fun o => h'[o]?) sealDepth v with | some v' => some (v', h) | none => none
              | none => none
            else none else none := by
            intro h
            simp only [callA, if_neg hny, hfn, hp]
          rw [e] at hc
          split at hc
          case isFalse => cases hc
          rename_i hl
          split at hc
          case isFalse => cases hc
          rename_i hfr
          split at hc
          case h_2 => cases hc
          rename_i v0 h0 hb
          split at hc
          case h_2 => cases hc
          rename_i v' hs
          simp only [Option.some.injEq, Prod.mk.injEq] at hc
          obtain ⟨rfl, rfl⟩ := hc
          refine ⟨rfl, fun h' => ?_⟩
          rw [e, if_pos hl, if_pos hfr]
          simp only [hb, hs]
  · intro f args h v h1 hny hp hc
    cases n with
    | zero => simp [callA] at hc
    | succ n =>
      unfold pureOf at hp
      cases hfn : p[f]? with
      | none => simp [hfn] at hp
      | some o =>
        cases o with
        | none => simp [hfn] at hp
        | some fn =>
          simp only [hfn] at hp
          have e : ∀ h, callA p N (n + 1) f args h = if args.length = fn.nargs then
              match args.mapM (V.shut (fun o => h[o]?) sealDepth) with
              | some args' =>
                match bodyA p (callA p N n) N 0 fn args' (deads fn.sites) with
                | some (v, _) => if v.plain then some (v, h) else none
                | none => none
              | none => none
            else none := by
            intro h
            simp only [callA, if_neg hny, hfn, hp]
          rw [e] at hc
          split at hc
          case isFalse => cases hc
          rename_i hl
          split at hc
          case h_2 => cases hc
          rename_i args' hm
          split at hc
          case h_2 => cases hc
          rename_i v0 h0 hb
          split at hc
          case isFalse => cases hc
          rename_i hpl
          simp only [Option.some.injEq, Prod.mk.injEq] at hc
          obtain ⟨rfl, rfl⟩ := hc
          refine ⟨rfl, fun hflat h' ha => ?_⟩
          have hm' : args.mapM (V.shut (fun o => h'[o]?) sealDepth) = some args' := by
            rw [← hm]
            refine (mapM_congr fun c hc => shut_local sealDepth c (fun o ho => ha o (mem_objsL hc o ho)) (fun o ho x hx => ?_)).symm
            have := List.all_eq_true.1 hflat o (mem_objsL hc o ho)
            simp only [hx] at this
            simpa using this
          rw [e, if_pos hl]
          simp only [hm', hb, hpl, if_true]

theorem foldl_rel {g : G} {w : World} : ∀ (ps : List Nat) (xs : List V) (ys : List Value) (t : List V) (tmps : Array Value), ps.length = xs.length → ys.length = xs.length → (∀ (i : Nat) (c : V) (y : Value), xs[i]? = some c → ys[i]? = some y → VRel g w c y) → TRel g w t tmps →
    TRel g w (setPs ps xs t) ((ps.zip ys).foldl (fun tmps (t, a) => tmps.setIfInBounds t a) tmps)
  | [], xs, ys, t, tmps, _, _, _, r => r
  | p :: ps, [], ys, t, tmps, h, _, _, r => by simp at h
  | p :: ps, x :: xs, [], t, tmps, _, h, _, r => by simp at h
  | p :: ps, x :: xs, y :: ys, t, tmps, h1, h2, hr, r => by
    have := foldl_rel ps xs ys (t.set p x) (tmps.setIfInBounds p y) (by simpa using h1) (by simpa using h2) (fun i c z h3 h4 => hr (i + 1) c z (by simpa using h3) (by simpa using h4)) (by
      have := TRel.put (a := { tmps := tmps, defers := [] }) r (hr 0 x y rfl rfl) (some p)
      exact this)
    exact this

theorem yieldA_ok (hm : P.follows .mixedOrders = true) {p : AProg} (hp : TrProg P p) {call : Caller} (hcall : CallOk P call) (hpure : PureOk (pureOf p) call) {N : Nat} {o ver : Nat} {args : List V} {h : Heap} {v : V} {h' : Heap} (hc : yieldA p call N (.yld o ver :: args) h = some (v, h')) :
    ∀ g w (xs : Array Value) b rd n, g.code = codesOf P → Sim g h w → g.loc o ver = some (b, 0) → xs.size = args.length → (∀ i c, args[i]? = some c → VRel g w c (xs.getD i undef)) →
      ∃ fn tmps asn body, (Instr.yield b xs).run P w = .ok (.round b fn tmps asn body) w ∧
        RoundIn (FR rd) n P b fn tmps asn body w fun e w' => ∃ x g', e = .returned x ∧ Sim g' h' w' ∧ Ext g h w g' h' w' ∧ VRel g' w' v x := by
  intro g w xs b rd n hgc s hg hl hx
  simp only [yieldA] at hc
  split at hc
  case h_2 => cases hc
  rename_i v0 st0 pd0 t fb f k hob
  split at hc
  case isFalse => cases hc
  rename_i hv0
  subst hv0
  split at hc
  case h_2 => cases hc
  rename_i af haf
  split at hc
  case h_2 => cases hc
  rename_i ps asnA bodyA' hra
  split at hc
  case isFalse => cases hc
  rename_i hlen
  split at hc
  case h_2 => cases hc
  rename_i t1 h1 hex1
  split at hc
  case h_2 => cases hc
  rename_i v1 p1 t2 fb2 f2 k2 hob1
  split at hc
  case isFalse => cases hc
  rename_i hv1
  subst hv1
  split at hc
  case h_2 => cases hc
  rename_i x t4 h2 hex2
  split at hc
  case h_2 => cases hc
  rename_i v2 st3 pd3 t3 fb3 f3 k3 hob2
  split at hc
  case isFalse => cases hc
  rename_i hv2
  subst hv2
  obtain ⟨b0, rec, q1, q2, q3, q4, q5, q6, q7, q8, q9⟩ := sim_loop s hob
  rw [hg] at q1
  cases q1
  obtain ⟨fnc, hf, ht⟩ := hp f af haf
  obtain ⟨c, al, lt, hcb, htc⟩ := ht.body
  have hcode : (rangesOf c)[k]? = some ⟨rec.params, rec.assign, rec.body⟩ := by
    rw [hgc] at q7
    simpa only [codesOf, hf, hcb] using q7
  obtain ⟨-, -, hr⟩ := trCode_ranges c _ _ _ _ htc
  obtain ⟨ra, lt1, lt2, k1, k2', hra', hps, hasn, hbody⟩ := hr k _ hcode
  rw [hra] at hra'
  cases hra'
  simp only at hps hasn hbody
  have nest : ∀ {c : Code} {kk : Nat} {l : LT} {A : ACode}, trCode P (pureOf p) al f true kk l c = some A → ∀ i lc, (rangesOf c)[i]? = some lc → codesOf P f (kk + i) = some lc := fun hh i lc hi => by
    rw [(trCode_ranges _ _ _ _ _ hh).1 rfl] at hi
    simp at hi
  have hsz : xs.size = rec.params.size := by
    rw [hl, hlen, ← hps]
    simp
  refine ⟨rec.fn, _, rec.assign, rec.body, run_yield q4 hsz, roundIn_of_wpIn trivial ?_⟩
  have r0 : TRel g w (setPs ps args t) ((rec.params.zip xs).foldl (fun tmps (t, a) => tmps.setIfInBounds t a) rec.tmps) := by
    have e1 : (rec.params.zip xs).foldl (fun tmps (t, a) => tmps.setIfInBounds t a) rec.tmps = (ps.zip xs.toList).foldl (fun tmps (t, a) => tmps.setIfInBounds t a) rec.tmps := by
      rw [← Array.foldl_toList, Array.toList_zip, hps]
    rw [e1]
    refine foldl_rel ps args xs.toList t rec.tmps (by omega) (by simpa using hl) (fun i c y h1 h2 => ?_) ⟨q8, q9⟩
    have := hx i c h1
    rw [Array.getD_eq_getD_getElem?] at this
    have h3 : xs[i]? = some y := by simpa using h2
    rw [h3] at this
    exact this
  refine sim_code (rd := some b) (nn := n) (inR := true) (m := 0) hm hcall hpure (fun h => by cases h) rec.assign _ lt1 asnA hasn (nest hasn) g h w _ _ _ _ _ _ hex1 hgc s r0 (Mk.nil (Nat.zero_le _)) ?_
  intro g1 w1 a1 s1 x1 r1 d1
  obtain ⟨b1, rec1, u1, u2, u3, u4, u5, u6, u7, u8, u9⟩ := sim_loop s1 hob1
  have hg1 := x1.loc _ _ _ hg
  rw [hg1] at u1
  cases u1
  have hready : rec1.state = .ready := by
    revert u5
    cases rec1.state <;> intro u5 <;> first | rfl | (simp [stateN] at u5)
  refine ⟨_, run_beginRound u4 hready, ?_⟩
  obtain ⟨s2, x2⟩ := sim_turn s1 hob1 hg1 u4 (rec' := { rec1 with state := .busy }) (st' := 1) (pend' := p1) rfl u6 rfl rfl rfl rfl
  generalize w1.putObj b (.loop { rec1 with state := .busy }) = w2 at s2 x2 ⊢
  have e12 := x1.trans x2
  refine sim_code (rd := some b) (nn := n) (inR := true) (m := 0) hm hcall hpure (fun h => by cases h) rec.body _ lt2 bodyA' hbody (nest hbody) g1 _ w2 _ _ _ _ _ _ hex2 (e12.code.trans hgc) s2 (r1.ext x2 s1) (d1.ext x2) ?_
  intro g3 w3 a3 s3 x3 r3 _
  obtain ⟨b3, rec3, y1, y2, y3, y4, y5, y6, y7, y8, y9⟩ := sim_loop s3 hob2
  have hg3 := x3.loc _ _ _ hg1
  rw [hg3] at y1
  cases y1
  cases x with
  | norm =>
    simp only [Option.some.injEq, Prod.mk.injEq] at hc
    obtain ⟨rfl, rfl⟩ := hc
    obtain ⟨s4, x4⟩ := sim_turn s3 hob2 hg3 y4 (rec' := { rec3 with state := .ready, pending := none }) (st' := 0) (pend' := none) rfl rfl rfl rfl rfl rfl
    exact ⟨_, _, run_endRound none y4, _, g3, rfl, s4, (e12.trans x3).trans x4, .bool true⟩
  | exit id =>
    simp only [Option.some.injEq, Prod.mk.injEq] at hc
    obtain ⟨rfl, rfl⟩ := hc
    obtain ⟨s4, x4⟩ := sim_turn s3 hob2 hg3 y4 (rec' := { rec3 with state := .done, pending := some (.exit id) }) (st' := 2) (pend' := some (some id)) rfl rfl rfl rfl rfl rfl
    exact ⟨_, _, run_endRound (some (.exit id)) y4, _, g3, rfl, s4, (e12.trans x3).trans x4, .bool false⟩
  | ret =>
    simp only [Option.some.injEq, Prod.mk.injEq] at hc
    obtain ⟨rfl, rfl⟩ := hc
    obtain ⟨s4, x4⟩ := sim_turn s3 hob2 hg3 y4 (rec' := { rec3 with state := .done, pending := some .ret }) (st' := 2) (pend' := some none) rfl rfl rfl rfl rfl rfl
    exact ⟨_, _, run_endRound (some .ret) y4, _, g3, rfl, s4, (e12.trans x3).trans x4, .bool false⟩

/-- What the machine answers, the model answers. -/
theorem callA_ok (hm : P.follows .mixedOrders = true) {p : AProg} (hp : TrProg P p) (N : Nat) : ∀ n, CallOk P (callA p N n)
  | 0 => ⟨fun f args h v h' _ hc => by simp [callA] at hc, fun o ver args h v h' hc => by simp [callA] at hc⟩
  | n + 1 => by
    have IH := callA_ok hm hp N n
    have IP := callA_pure p N n
    refine ⟨fun f args h v h' hny hc => ?_, fun o ver args h v h' hc => ?_⟩
    case refine_2 =>
      simp only [callA, ↓reduceIte] at hc
      exact yieldA_ok hm hp IH IP hc
    simp only [callA, if_neg hny] at hc
    split at hc
    case h_2 => cases hc
    rename_i af haf
    obtain ⟨fn, hf, ht⟩ := hp f af haf
    split at hc
    case isFalse => cases hc
    refine ⟨⟨fn, hf, ?_, ht.named⟩, fun g w xs hgc s hl hx => ?_⟩
    · obtain ⟨c, al, hint, hb, -⟩ := ht.body
      rw [hb]; rfl
    · have keep : bodyA p (callA p N n) N h.length af args (h ++ deads af.sites) = some (v, h') → Calls P f xs w fun e w' => ∃ x g', e = .returned x ∧ Sim g' h' w' ∧ Ext g h w g' h' w' ∧ VRel g' w' v x := by
        intro hc
        obtain ⟨s1, e1⟩ := sim_grow s af.sites
        refine (sim_body hm IH IP hf ht hc (e1.code.trans hgc) s1 hl hx).mono ?_
        rintro e w' ⟨x, g', rfl, q1, q2, q3⟩
        exact ⟨x, g', rfl, q1, e1.trans q2, q3⟩
      have alone : V.freeL args = true → (match bodyA p (callA p N n) N 0 af args (deads af.sites) with
          | some (v, h') => match V.shut (fun o => h'[o]?) sealDepth v with | some v' => some (v', h) | none => none
          | none => none) = some (v, h') → Calls P f xs w fun e w' => ∃ x g', e = .returned x ∧ Sim g' h' w' ∧ Ext g h w g' h' w' ∧ VRel g' w' v x := by
        intro hfree hc
        split at hc
        case h_2 => cases hc
        rename_i v0 h0 hb
        split at hc
        case h_2 => cases hc
        rename_i v' hs
        simp only [Option.some.injEq, Prod.mk.injEq] at hc
        obtain ⟨rfl, rfl⟩ := hc
        have s0 := sim_empty s af.sites
        refine (sim_body hm IH IP hf ht hb (g := ⟨fun _ _ => none, g.imm, g.code⟩) hgc s0 hl (fun i c hi => (hx i c hi).free (fun b hb => hb) (freeL_get hfree i c hi))).mono ?_
        rintro e w' ⟨x, g', rfl, q1, q2, q3⟩
        obtain ⟨b1, b2, b3⟩ := sim_back s q1 q2
        obtain ⟨v1, v2⟩ := sim_seal q1 sealDepth v0 v' x hs q3
        exact ⟨x, _, rfl, b1, b2, v1.free b3 v2⟩
      split at hc
      · exact keep hc
      · split at hc
        · rename_i hfree; exact alone hfree hc
        · exact keep hc
      · split at hc
        case isFalse => cases hc
        rename_i hfree
        exact alone hfree hc
      · split at hc
        case h_2 => cases hc
        rename_i args' hsh
        split at hc
        case h_2 => cases hc
        rename_i v0 h0 hb
        split at hc
        case isFalse => cases hc
        rename_i hpl
        simp only [Option.some.injEq, Prod.mk.injEq] at hc
        obtain ⟨rfl, rfl⟩ := hc
        obtain ⟨m1, m2⟩ := mapM_get hsh
        have ss : Sim ⟨fun _ _ => none, (sealG g h).imm, g.code⟩ (deads af.sites) w := by
          have hd : ∀ (o : Nat) (x : Ob), (deads af.sites)[o]? = some x → x.bd.lives = false := fun o x hx => by
            simp only [deads, List.getElem?_replicate] at hx
            split at hx
            · cases hx; rfl
            · cases hx
          refine ⟨fun o x hx hl => (by rw [hd o x hx] at hl; cases hl), fun o o' b h1 => (blk_deads _ _ _ _ h1).elim, fun o b hb => (blk_deads _ _ _ _ hb).elim, fun b hb => ?_, fun o t b hb => by cases hb⟩
          rcases hb with hb | ⟨o, hb⟩
          · exact s.immlt b hb
          · obtain ⟨x, base, hx, hlv, hg⟩ := blk_some hb
            obtain ⟨b', base', hg', hlt, -⟩ := s.obs o x hx hlv
            rw [hg] at hg'
            cases hg'
            exact hlt
        refine (sim_body hm IH IP hf ht hb (g := ⟨fun _ _ => none, (sealG g h).imm, g.code⟩) hgc ss (by omega) (fun i c hi => ?_)).mono ?_
        · obtain ⟨b, hb', hs⟩ := m2 i c hi
          obtain ⟨r1, r2⟩ := sim_seal s sealDepth b c _ hs (hx i b hb')
          exact r1.free (fun b hb => hb) r2
        · rintro e w' ⟨x, g', rfl, q1, q2, q3⟩
          have hsame : ∀ b, b < w.heap.size → w'.heap[b]? = w.heap[b]? := fun b hb => q2.frame b hb (fun o => blk_deads _ _ _ _)
          have hL : Later g w g w' := ⟨rfl, fun _ _ _ h => h, fun _ h => h, fun b hb => hsame b (s.immlt b hb), q2.shape⟩
          have s' : Sim g h w' := ⟨fun o x hx hl => by
              obtain ⟨b, base, h1, h2, h3⟩ := s.obs o x hx hl
              exact ⟨b, base, h1, Nat.lt_of_lt_of_le h2 q2.size, h3.later hL (hsame b h2)⟩,
            s.inj, s.imm, fun b hb => Nat.lt_of_lt_of_le (s.immlt b hb) q2.size, s.loclt⟩
          exact ⟨x, g, rfl, s', ⟨rfl, fun _ _ _ h => h, fun _ h => h, fun _ h => .inl h, q2.size, q2.shape, fun b hb _ => hsame b hb, fun o b hb _ => ⟨o, hb⟩, q2.os, q2.tape, q2.output⟩, q3.plain hpl⟩

/-- At the start of a call from anywhere: nobody owns anything. -/
theorem sim_start (P : Program) (w : World) : Sim ⟨fun _ _ => none, fun b => b < w.heap.size, codesOf P⟩ [] w :=
  ⟨fun o x hx => by simp at hx, fun o o' b hb => by simp [blk] at hb, fun o b hb => by simp [blk] at hb, fun b hb => hb, fun o t b hb => by cases hb⟩

theorem below_of {g g' : G} {w w' : World} {h' : Heap} (e : Ext g [] w g' h' w') : RowKit.Below w.heap.size w w' :=
  ⟨e.os, e.tape, e.output, e.size, fun k hk => e.frame k hk (fun o => by simp [blk])⟩

/-- A call from anywhere. -/
theorem callA_from (hm : P.follows .mixedOrders = true) {p : AProg} (hp : TrProg P p) {N n : Nat} {f : FuncId} (hny : f ≠ YLD) {args : List V} {v : V} {h' : Heap} (hc : callA p N n f args [] = some (v, h')) (w : World) (xs : Array Value) (hl : xs.size = args.length)
    (hx : ∀ i c, args[i]? = some c → VRel ⟨fun _ _ => none, fun b => b < w.heap.size, codesOf P⟩ w c (xs.getD i undef)) :
    Calls P f xs w fun e w' => ∃ x g', e = .returned x ∧ VRel g' w' v x ∧ RowKit.Below w.heap.size w w' :=
  (((callA_ok hm hp N n).fn f args [] v h' hny hc).2 _ w xs rfl (sim_start P w) hl hx).mono fun e w' ⟨x, g', h1, h2, h3, h4⟩ => ⟨x, g', h1, h4, below_of h3⟩

theorem law_from (hm : P.follows .mixedOrders = true) {p : AProg} (hp : TrProg P p) {N n : Nat} {f : FuncId} {args : List V} {h' : Heap} (hc : callA p N n f args [] = some (.bool true, h')) (w : World) (xs : Array Value) (hl : xs.size = args.length)
    (hx : ∀ i c, args[i]? = some c → VRel ⟨fun _ _ => none, fun b => b < w.heap.size, codesOf P⟩ w c (xs.getD i undef)) (hny : f ≠ YLD := by decide) :
    Calls P f xs w fun e w' => e = .returned (.bool true) ∧ RowKit.Below w.heap.size w w' :=
  (callA_from hm hp hny hc w xs hl hx).mono fun e w' ⟨x, g', h1, h2, h3⟩ => by cases h2; exact ⟨h1, h3⟩

end Go.Am
