/- The whole machine: functions that call functions; and that what it answers the model answers. -/
import Derived.Test.YtklmggpiehmpdaaAm21
set_option linter.unusedVariables false
set_option linter.unusedSimpArgs false
namespace Go.Am
variable {P : Program}

def resA1 (get : Nat → Option Ob) (t : List V) : ARes → Option V
  | .tmp i => some (t.getD i .junk)
  | .cell i ag => (loadA get (nAg ag) (t.getD i .junk)).bind (packA ag)

def resA (get : Nat → Option Ob) (t : List V) : List ARes → Option (List V)
  | [] => some []
  | r :: rs => match resA1 get t r, resA get t rs with | some v, some vs => some (v :: vs) | _, _ => none

def packR : List V → V
  | [v] => v
  | vs => .tup vs

abbrev AProg := List (Option AFunc)

def pureOf (p : AProg) (f : FuncId) : FMode := match p[f]? with | some (some fn) => fn.mode | _ => .keep

def bodyA (p : AProg) (call : Caller) (N fb : Nat) (fn : AFunc) (args : List V) (h : Heap) : Option (V × Heap) :=
  match exec (pureOf p) call N fb fn.body (args ++ List.replicate (fn.nt - args.length) .junk) h with
  | some (.norm, t, h') => match resA (fun o => h'[o]?) t fn.res with | some vs => some (packR vs, h') | none => none
  | some (.ret, t, h') => match resA (fun o => h'[o]?) t fn.res with | some vs => some (packR vs, h') | none => none
  | _ => none

def deads (n : Nat) : Heap := List.replicate n ⟨0, .dead⟩

/-- How deep results may be nested. -/
def sealDepth : Nat := 64

def callA (p : AProg) (N : Nat) : Nat → Caller
  | 0, _, _, _ => none
  | n + 1, f, args, h =>
    match p[f]? with
    | some (some fn) =>
      if args.length = fn.nargs then
        match fn.mode with
        | .keep => bodyA p (callA p N n) N h.length fn args (h ++ deads fn.sites)
        | .auto =>
          if V.freeL args then
            match bodyA p (callA p N n) N 0 fn args (deads fn.sites) with
            | some (v, h') => match V.shut (fun o => h'[o]?) sealDepth v with | some v' => some (v', h) | none => none
            | none => none
          else bodyA p (callA p N n) N h.length fn args (h ++ deads fn.sites)
        | .pure =>
          if V.freeL args then
            match bodyA p (callA p N n) N 0 fn args (deads fn.sites) with
            | some (v, h') => match V.shut (fun o => h'[o]?) sealDepth v with | some v' => some (v', h) | none => none
            | none => none
          else none
        | .look =>
          match args.mapM (V.shut (fun o => h[o]?) sealDepth) with
          | some args' =>
            match bodyA p (callA p N n) N 0 fn args' (deads fn.sites) with
            | some (v, _) => if v.plain then some (v, h) else none
            | none => none
          | none => none
      else none
    | _ => none

def trRes (P : Program) : ResultVar → Option ARes
  | .tmp t => some (.tmp t)
  | .cell a t => (agOf P t).map (.cell a)

/-- A function, in the abstract machine's words. -/
structure TrFunc (P : Program) (p : AProg) (fn : Func) (af : AFunc) : Prop where
  named : (fn.name == "runtime.NumGoroutine") = false
  body : ∃ c al lt, fn.body = some c ∧ trCode P (pureOf p) al lt c = some af.body
  nt : af.nt = fn.ntmps
  res : fn.results.toList.mapM (trRes P) = some af.res

def TrProg (P : Program) (p : AProg) : Prop := ∀ (f : Nat) (af : AFunc), p[f]? = some (some af) → ∃ fn, P.funcs[f]? = some fn ∧ TrFunc P p fn af

theorem sim_empty {g : G} {h : Heap} {w : World} (s : Sim g h w) (n : Nat) : Sim ⟨fun _ _ => none, g.imm, g.code⟩ (deads n) w := by
  have hd : ∀ (o : Nat) (x : Ob), (deads n)[o]? = some x → x.bd.lives = false := fun o x hx => by
    simp only [deads, List.getElem?_replicate] at hx
    split at hx
    · cases hx; rfl
    · cases hx
  refine ⟨fun o x hx hl => ?_, fun o o' b h1 => ?_, fun o b h1 => ?_, s.immlt, fun o t b h1 => by cases h1⟩
  · rw [hd o x hx] at hl; cases hl
  · obtain ⟨x, base, hx, hl, -⟩ := blk_some h1
    rw [hd o x hx] at hl; cases hl
  · obtain ⟨x, base, hx, hl, -⟩ := blk_some h1
    rw [hd o x hx] at hl; cases hl

theorem blk_deads (g : G) (n o b : Nat) : blk g (deads n) o ≠ some b := by
  intro h
  obtain ⟨x, base, hx, hl, -⟩ := blk_some h
  simp only [deads, List.getElem?_replicate] at hx
  split at hx
  · cases hx; cases hl
  · cases hx

theorem sim_grow {g : G} {h : Heap} {w : World} (s : Sim g h w) (n : Nat) : Sim g (h ++ deads n) w ∧ Ext g h w g (h ++ deads n) w := by
  have hget : ∀ (o : Nat) (x : Ob), (h ++ deads n)[o]? = some x → x.bd.lives = true → h[o]? = some x := fun o x hx hl => by
    rcases Nat.lt_or_ge o h.length with hlt | hge
    · rwa [List.getElem?_append_left hlt] at hx
    · rw [List.getElem?_append_right hge] at hx
      simp only [deads, List.getElem?_replicate] at hx
      split at hx
      · cases hx; cases hl
      · cases hx
  have hblk : ∀ o b, blk g (h ++ deads n) o = some b → blk g h o = some b := fun o b hb => by
    obtain ⟨x, base, hx, hl, hg⟩ := blk_some hb
    exact blk_of (hget o x hx hl) hl hg
  refine ⟨⟨fun o x hx hl => s.obs o x (hget o x hx hl) hl, fun o o' b h1 h2 => s.inj o o' b (hblk _ _ h1) (hblk _ _ h2), fun o b hb => s.imm o b (hblk _ _ hb), s.immlt, fun o t b hg => ?_⟩,
    ⟨rfl, fun _ _ _ h => h, fun _ h => h, fun _ h => .inl h, Nat.le_refl _, fun _ _ h => h, fun _ _ _ => rfl, fun o b hb _ => ⟨o, hblk _ _ hb⟩, rfl, rfl, rfl⟩⟩
  obtain ⟨x, hx, ht⟩ := s.loclt o t b hg
  have hlt : o < h.length := by
    rcases Nat.lt_or_ge o h.length with h1 | h1
    · exact h1
    · simp [List.getElem?_eq_none h1] at hx
  exact ⟨x, by rw [List.getElem?_append_left hlt]; exact hx, ht⟩

/-- Back from a call on a memory of its own. -/
theorem sim_back {g : G} {h : Heap} {w : World} (s : Sim g h w) {n : Nat} {g1 : G} {h1 : Heap} {w1 : World} (s1 : Sim g1 h1 w1) (e : Ext ⟨fun _ _ => none, g.imm, g.code⟩ (deads n) w g1 h1 w1) :
    let g2 : G := ⟨g.loc, fun b => g.imm b ∨ (w.heap.size ≤ b ∧ (sealG g1 h1).imm b), g.code⟩
    Sim g2 h w1 ∧ Ext g h w g2 h w1 ∧ ∀ b, (sealG g1 h1).imm b → g2.imm b := by
  intro g2
  have hsame : ∀ b, b < w.heap.size → w1.heap[b]? = w.heap[b]? := fun b hb => e.frame b hb (fun o => blk_deads _ _ _ _)
  have hL : Later g w g2 w1 := ⟨rfl, fun _ _ _ h => h, fun _ h => .inl h, fun b hb => hsame b (s.immlt b hb), e.shape⟩
  have hlt : ∀ o b, blk g h o = some b → b < w.heap.size := fun o b hb => by
    obtain ⟨x, base, hx, hl, hg⟩ := blk_some hb
    obtain ⟨b', base', hg', hlt, -⟩ := s.obs o x hx hl
    rw [hg] at hg'
    cases hg'
    exact hlt
  have himm : ∀ b, (sealG g1 h1).imm b → g2.imm b := by
    intro b hb
    rcases hb with hb | ⟨o, hb⟩
    · rcases e.imm' b hb with h' | h'
      · exact .inl h'
      · exact .inr ⟨h', .inl hb⟩
    · rcases Nat.lt_or_ge b w.heap.size with h' | h'
      · obtain ⟨o', ho'⟩ := e.own o b hb h'
        exact absurd ho' (blk_deads _ _ _ _)
      · exact .inr ⟨h', .inr ⟨o, hb⟩⟩
  refine ⟨⟨fun o x hx hl => ?_, s.inj, fun o b hb hi => ?_, fun b hb => ?_, s.loclt⟩,
    ⟨rfl, fun _ _ _ h => h, fun _ h => .inl h, fun b hb => ?_, e.size, e.shape, fun b hb _ => hsame b hb, fun o b hb _ => ⟨o, hb⟩, e.os, e.tape, e.output⟩, himm⟩
  · obtain ⟨b, base, h1, h2, h3⟩ := s.obs o x hx hl
    exact ⟨b, base, h1, Nat.lt_of_lt_of_le h2 e.size, h3.later hL (hsame b h2)⟩
  · rcases hi with hi | ⟨hi, -⟩
    · exact s.imm o b hb hi
    · have := hlt o b hb; omega
  · rcases hb with hb | ⟨-, hb⟩
    · exact Nat.lt_of_lt_of_le (s.immlt b hb) e.size
    · rcases hb with hb | ⟨o, hb⟩
      · exact s1.immlt b hb
      · obtain ⟨x, base, hx, hl, hg⟩ := blk_some hb
        obtain ⟨b', base', hg', hlt, -⟩ := s1.obs o x hx hl
        rw [hg] at hg'
        cases hg'
        exact hlt
  · rcases hb with hb | ⟨hb, -⟩
    · exact .inl hb
    · exact .inr hb

theorem load_runs {g : G} {h : Heap} {w : World} (s : Sim g h w) {p v : V} {x : Value} {t : TypeId} {ag : Option Nat} (ht : agOf P t = some ag) (hp : VRel g w p x)
    {cs : List V} (hl : loadA (fun o => h[o]?) (nAg ag) p = some cs) (hv : packA ag cs = some v) : ∃ a y, x = .pointer (some a) ∧ (loadVar t a).run P w = .ok y w ∧ VRel g w v y := by
  obtain ⟨b, off, xs, rfl, hxl, hcl, hcell, hrel⟩ := goes_loads s hp hl
  cases ag with
  | some n =>
    simp only [packA, Option.some.injEq] at hv
    subst hv
    have hxl' : xs.length = n := hxl
    refine ⟨_, _, rfl, ?_, hrel.agg⟩
    simp only [nAg, loadVar, Sem.run_bind, Result.andThen_ok, run_isAgg ht, Option.isSome_some, if_true, run_sizeOf_ag ht, run_loads hxl' hcell, Sem.run_pure]
  | none =>
    simp only [nAg] at hxl hcl
    obtain ⟨c, rfl⟩ : ∃ c, cs = [c] := by
      cases cs with
      | nil => simp at hcl
      | cons c cs => cases cs with
        | nil => exact ⟨c, rfl⟩
        | cons d cs => simp at hcl
    obtain ⟨y, rfl⟩ : ∃ y, xs = [y] := by
      cases xs with
      | nil => simp at hxl
      | cons c cs => cases cs with
        | nil => exact ⟨c, rfl⟩
        | cons d cs => simp at hxl
    simp only [packA, List.head?_cons, Option.some.injEq] at hv
    subst hv
    refine ⟨_, y, rfl, ?_, hrel.2 0 _ _ rfl rfl⟩
    have hc := hcell 0 y rfl
    simp only [Nat.add_zero] at hc
    simp [loadVar, run_isAgg ht, run_load, hc]

theorem run_results {g : G} {h : Heap} {w : World} (s : Sim g h w) {t : List V} {tmps : Array Value} (r : TRel g w t tmps) {fn : Func} {rs : List ARes} (hrs : fn.results.toList.mapM (trRes P) = some rs) {vs : List V} (hv : resA (fun o => h[o]?) t rs = some vs) :
    ∃ x, (results fn tmps).run P w = .ok x w ∧ VRel g w (packR vs) x := by
  have hslot : ∀ i, VRel g w (t.getD i .junk) (tmps.getD i undef) := fun i => by
    rcases Nat.lt_or_ge i t.length with h | h
    · rw [List.getD_eq_getElem?_getD, List.getElem?_eq_getElem h]
      exact r.2 i _ (List.getElem?_eq_getElem h)
    · rw [List.getD_eq_getElem?_getD, List.getElem?_eq_none h]
      exact .junk _
  have key : ∀ (F : ResultVar → Sem Value), (∀ i, F (.tmp i) = pure (tmps.getD i undef)) → (∀ i ty, F (.cell i ty) = do loadVar ty (← asAddr (tmps.getD i undef))) → ∀ (l : List ResultVar) (rs : List ARes) (vs : List V), l.mapM (trRes P) = some rs → resA (fun o => h[o]?) t rs = some vs →
      ∃ xs : List Value, (l.mapM F).run P w = .ok xs w ∧ Cells g w vs xs := by
    intro F F1 F2 l
    induction l with
    | nil =>
      intro rs vs h1 h2
      simp at h1
      subst h1
      simp [resA] at h2
      subst h2
      exact ⟨[], rfl, rfl, by simp⟩
    | cons a l ih =>
      intro rs vs h1 h2
      simp only [List.mapM_cons, Option.bind_eq_bind, Option.bind_eq_some_iff, Option.pure_def, Option.some.injEq] at h1
      obtain ⟨ra, hra, rl, hrl, rfl⟩ := h1
      simp only [resA] at h2
      split at h2
      case h_2 => cases h2
      rename_i v vs' e1 e2
      cases h2
      obtain ⟨xs, q1, q2⟩ := ih rl vs' hrl e2
      have one : ∃ x, (F a).run P w = .ok x w ∧ VRel g w v x := by
        cases a with
        | tmp i =>
          simp only [trRes, Option.some.injEq] at hra
          subst hra
          simp only [resA1, Option.some.injEq] at e1
          subst e1
          exact ⟨_, by rw [F1]; rfl, hslot i⟩
        | cell i ty =>
          simp only [trRes, Option.map_eq_some_iff] at hra
          obtain ⟨ag, hag, rfl⟩ := hra
          simp only [resA1, Option.bind_eq_some_iff] at e1
          obtain ⟨cs, hl, hp⟩ := e1
          obtain ⟨ad, x, hx, hrun, hr⟩ := load_runs (P := P) s hag (hslot i) hl hp
          refine ⟨x, ?_, hr⟩
          rw [F2, hx]
          simp [asAddr, hrun]
      obtain ⟨x, hx, hr⟩ := one
      refine ⟨x :: xs, ?_, ⟨by simp [q2.1], fun i c y hc hy => ?_⟩⟩
      · rw [List.mapM_cons]
        simp only [Sem.run_bind, hx, Result.andThen_ok, q1, Sem.run_pure]
      · cases i with
        | zero => simp at hc hy; subst hc; subst hy; exact hr
        | succ i => simp at hc hy; exact q2.2 i c y hc hy
  have hex : ∃ xs : List Value, (results fn tmps).run P w = .ok (if h : xs.toArray.size = 1 then xs.toArray[0] else .tuple xs.toArray) w ∧ Cells g w vs xs := by
    unfold results
    rw [Array.mapM_eq_mapM_toList]
    obtain ⟨xs, h1, h2⟩ := key (fun | .tmp t => pure (tmps.getD t undef) | .cell a t => do loadVar t (← asAddr (tmps.getD a undef))) (fun i => rfl) (fun i ty => rfl) _ _ _ hrs hv
    refine ⟨xs, ?_, h2⟩
    have e : ∀ (m : Sem (List Value)), (List.toArray <$> m).run P w = (m.run P w).andThen fun a w' => .ok a.toArray w' := fun m => by
      show ((m >>= fun a => pure a.toArray).run P w) = _
      rw [Sem.run_bind]
      congr 1
    rw [Sem.run_bind, e]
    erw [h1]
    rfl
  obtain ⟨xs, hrun, h2⟩ := hex
  refine ⟨_, hrun, ?_⟩
  have tup : ∀ (vs : List V) (xs : List Value), Cells g w vs xs → VRel g w (.tup vs) (.tuple xs.toArray) := by
    intro vs xs h
    have := h.agg
    cases this with
    | agg _ _ hx hc => exact .tup _ _ hx hc
  cases vs with
  | nil =>
    have hx : xs = [] := List.length_eq_zero_iff.1 h2.1
    subst hx
    exact tup [] [] h2
  | cons v vs =>
    cases vs with
    | nil =>
      obtain ⟨y, rfl⟩ : ∃ y, xs = [y] := by
        have := h2.1
        cases xs with
        | nil => simp at this
        | cons y ys => cases ys with
          | nil => exact ⟨y, rfl⟩
          | cons z zs => simp at this
      exact h2.2 0 v y rfl rfl
    | cons v' vs =>
      have hne : ¬ xs.toArray.size = 1 := by have := h2.1; simp at this ⊢; omega
      rw [dif_neg hne]
      exact tup _ _ h2

/-- A body. -/
theorem sim_body {p : AProg} (hm : P.follows .mixedOrders = true) {call : Caller} (hcall : CallOk P call) (hpure : PureOk (pureOf p) call) {N fb : Nat} {f : FuncId} {fn : Func} {af : AFunc} (hf : P.funcs[f]? = some fn) (ht : TrFunc P p fn af)
    {args : List V} {h : Heap} {v : V} {h' : Heap} (hb : bodyA p call N fb af args h = some (v, h')) {g : G} {w : World} {xs : Array Value} (s : Sim g h w) (hl : xs.size = args.length) (hx : ∀ i c, args[i]? = some c → VRel g w c (xs.getD i undef)) :
    Calls P f xs w fun e w' => ∃ x g', e = .returned x ∧ Sim g' h' w' ∧ Ext g h w g' h' w' ∧ VRel g' w' v x := by
  obtain ⟨c, al, hint, hc, htc⟩ := ht.body
  have r : TRel g w (args ++ List.replicate (af.nt - args.length) .junk) (xs ++ Array.replicate (fn.ntmps - xs.size) undef) := by
    refine ⟨by simp [hl, ht.nt], fun i u hi => ?_⟩
    rcases Nat.lt_or_ge i args.length with hlt | hge
    · rw [List.getElem?_append_left hlt] at hi
      have := hx i u hi
      rw [Array.getD_eq_getD_getElem?] at this ⊢
      rw [Array.getElem?_append_left (by omega)]
      exact this
    · rw [List.getElem?_append_right hge, List.getElem?_replicate] at hi
      split at hi
      · cases hi
        exact .junk _
      · cases hi
  have post : ∀ (x : Ex) (t : List V) (vs : List V), x.to = .normal ∨ x.to = .ret → resA (fun o => h'[o]?) t af.res = some vs → v = packR vs → ∀ g' w' a', Sim g' h' w' → Ext g h w g' h' w' → TRel g' w' t a'.tmps → a'.defers = [] →
      bodyPost P fn (fun e w' => ∃ x g', e = .returned x ∧ Sim g' h' w' ∧ Ext g h w g' h' w' ∧ VRel g' w' v x) x.to a' w' := by
    intro x t vs hx hr hv g' w' a' q1 q2 q3 q4
    obtain ⟨y, hy, hyr⟩ := run_results q1 q3 ht.res hr
    subst hv
    rcases hx with hx | hx <;> rw [hx] <;> exact ⟨q4, y, hy, y, g', rfl, q1, q2, hyr⟩
  refine calls_of_wp hf hc ?_
  unfold bodyA at hb
  split at hb
  · rename_i t k he
    split at hb
    · rename_i vs hr
      simp only [Option.some.injEq, Prod.mk.injEq] at hb
      obtain ⟨rfl, rfl⟩ := hb
      exact wpIn_wide.1 (sim_code (rd := none) (nn := 0) hm hcall hpure c hint af.body htc g h w _ _ _ _ _ _ he s r rfl (post .norm t vs (.inl rfl) hr rfl))
    · cases hb
  · rename_i t k he
    split at hb
    · rename_i vs hr
      simp only [Option.some.injEq, Prod.mk.injEq] at hb
      obtain ⟨rfl, rfl⟩ := hb
      exact wpIn_wide.1 (sim_code (rd := none) (nn := 0) hm hcall hpure c hint af.body htc g h w _ _ _ _ _ _ he s r rfl (post .ret t vs (.inr rfl) hr rfl))
    · cases hb
  · cases hb

theorem callA_pure (p : AProg) (N n : Nat) : PureOk (pureOf p) (callA p N n) := by
  constructor
  · intro f args h v h1 hp hc
    cases n with
    | zero => simp [callA] at hc
    | succ n =>
      unfold pureOf at hp
      cases hfn : p[f]? with
      | none => simp [hfn] at hp
      | some o =>
        cases o with
        | none => simp [hfn] at hp
        | some fn =>
          simp only [hfn] at hp
          have e : ∀ h, callA p N (n + 1) f args h = if args.length = fn.nargs then if V.freeL args then
              match bodyA p (callA p N n) N 0 fn args (deads fn.sites) with
              | some (v, h') => match V.shut (fun o => h'[o]?) sealDepth v with | some v' => some (v', h) | none => none
              | none => none
            else none else none := by
            intro h
            simp only [callA, hfn, hp]
          rw [e] at hc
          split at hc
          case isFalse => cases hc
          rename_i hl
          split at hc
          case isFalse => cases hc
          rename_i hfr
          split at hc
          case h_2 => cases hc
          rename_i v0 h0 hb
          split at hc
          case h_2 => cases hc
          rename_i v' hs
          simp only [Option.some.injEq, Prod.mk.injEq] at hc
          obtain ⟨rfl, rfl⟩ := hc
          refine ⟨rfl, fun h' => ?_⟩
          rw [e, if_pos hl, if_pos hfr]
          simp only [hb, hs]
  · intro f args h v h1 hp hc
    cases n with
    | zero => simp [callA] at hc
    | succ n =>
      unfold pureOf at hp
      cases hfn : p[f]? with
      | none => simp [hfn] at hp
      | some o =>
        cases o with
        | none => simp [hfn] at hp
        | some fn =>
          simp only [hfn] at hp
          have e : ∀ h, callA p N (n + 1) f args h = if args.length = fn.nargs then
              match args.mapM (V.shut (fun o => h[o]?) sealDepth) with
              | some args' =>
                match bodyA p (callA p N n) N 0 fn args' (deads fn.sites) with
                | some (v, _) => if v.plain then some (v, h) else none
                | none => none
              | none => none
            else none := by
            intro h
            simp only [callA, hfn, hp]
          rw [e] at hc
          split at hc
          case isFalse => cases hc
          rename_i hl
          split at hc
          case h_2 => cases hc
          rename_i args' hm
          split at hc
          case h_2 => cases hc
          rename_i v0 h0 hb
          split at hc
          case isFalse => cases hc
          rename_i hpl
          simp only [Option.some.injEq, Prod.mk.injEq] at hc
          obtain ⟨rfl, rfl⟩ := hc
          refine ⟨rfl, fun hflat h' ha => ?_⟩
          have hm' : args.mapM (V.shut (fun o => h'[o]?) sealDepth) = some args' := by
            rw [← hm]
            refine (mapM_congr fun c hc => shut_local sealDepth c (fun o ho => ha o (mem_objsL hc o ho)) (fun o ho x hx => ?_)).symm
            have := List.all_eq_true.1 hflat o (mem_objsL hc o ho)
            simp only [hx] at this
            simpa using this
          rw [e, if_pos hl]
          simp only [hm', hb, hpl, if_true]

/-- What the machine answers, the model answers. -/
theorem callA_ok (hm : P.follows .mixedOrders = true) {p : AProg} (hp : TrProg P p) (N : Nat) : ∀ n, CallOk P (callA p N n)
  | 0 => by intro f args h v h' hc; simp [callA] at hc
  | n + 1 => by
    intro f args h v h' hc
    have IH := callA_ok hm hp N n
    have IP := callA_pure p N n
    simp only [callA] at hc
    split at hc
    case h_2 => cases hc
    rename_i af haf
    obtain ⟨fn, hf, ht⟩ := hp f af haf
    split at hc
    case isFalse => cases hc
    refine ⟨⟨fn, hf, ?_, ht.named⟩, fun g w xs s hl hx => ?_⟩
    · obtain ⟨c, al, hint, hb, -⟩ := ht.body
      rw [hb]; rfl
    · have keep : bodyA p (callA p N n) N h.length af args (h ++ deads af.sites) = some (v, h') → Calls P f xs w fun e w' => ∃ x g', e = .returned x ∧ Sim g' h' w' ∧ Ext g h w g' h' w' ∧ VRel g' w' v x := by
        intro hc
        obtain ⟨s1, e1⟩ := sim_grow s af.sites
        refine (sim_body hm IH IP hf ht hc s1 hl hx).mono ?_
        rintro e w' ⟨x, g', rfl, q1, q2, q3⟩
        exact ⟨x, g', rfl, q1, e1.trans q2, q3⟩
      have alone : V.freeL args = true → (match bodyA p (callA p N n) N 0 af args (deads af.sites) with
          | some (v, h') => match V.shut (fun o => h'[o]?) sealDepth v with | some v' => some (v', h) | none => none
          | none => none) = some (v, h') → Calls P f xs w fun e w' => ∃ x g', e = .returned x ∧ Sim g' h' w' ∧ Ext g h w g' h' w' ∧ VRel g' w' v x := by
        intro hfree hc
        split at hc
        case h_2 => cases hc
        rename_i v0 h0 hb
        split at hc
        case h_2 => cases hc
        rename_i v' hs
        simp only [Option.some.injEq, Prod.mk.injEq] at hc
        obtain ⟨rfl, rfl⟩ := hc
        have s0 := sim_empty s af.sites
        refine (sim_body hm IH IP hf ht hb s0 hl (fun i c hi => (hx i c hi).free (fun b hb => hb) (freeL_get hfree i c hi))).mono ?_
        rintro e w' ⟨x, g', rfl, q1, q2, q3⟩
        obtain ⟨b1, b2, b3⟩ := sim_back s q1 q2
        obtain ⟨v1, v2⟩ := sim_seal q1 sealDepth v0 v' x hs q3
        exact ⟨x, _, rfl, b1, b2, v1.free b3 v2⟩
      split at hc
      · exact keep hc
      · split at hc
        · rename_i hfree; exact alone hfree hc
        · exact keep hc
      · split at hc
        case isFalse => cases hc
        rename_i hfree
        exact alone hfree hc
      · split at hc
        case h_2 => cases hc
        rename_i args' hsh
        split at hc
        case h_2 => cases hc
        rename_i v0 h0 hb
        split at hc
        case isFalse => cases hc
        rename_i hpl
        simp only [Option.some.injEq, Prod.mk.injEq] at hc
        obtain ⟨rfl, rfl⟩ := hc
        obtain ⟨m1, m2⟩ := mapM_get hsh
        have ss : Sim ⟨fun _ _ => none, (sealG g h).imm, g.code⟩ (deads af.sites) w := by
          have hd : ∀ (o : Nat) (x : Ob), (deads af.sites)[o]? = some x → x.bd.lives = false := fun o x hx => by
            simp only [deads, List.getElem?_replicate] at hx
            split at hx
            · cases hx; rfl
            · cases hx
          refine ⟨fun o x hx hl => (by rw [hd o x hx] at hl; cases hl), fun o o' b h1 => (blk_deads _ _ _ _ h1).elim, fun o b hb => (blk_deads _ _ _ _ hb).elim, fun b hb => ?_, fun o t b hb => by cases hb⟩
          rcases hb with hb | ⟨o, hb⟩
          · exact s.immlt b hb
          · obtain ⟨x, base, hx, hlv, hg⟩ := blk_some hb
            obtain ⟨b', base', hg', hlt, -⟩ := s.obs o x hx hlv
            rw [hg] at hg'
            cases hg'
            exact hlt
        refine (sim_body hm IH IP hf ht hb ss (by omega) (fun i c hi => ?_)).mono ?_
        · obtain ⟨b, hb', hs⟩ := m2 i c hi
          obtain ⟨r1, r2⟩ := sim_seal s sealDepth b c _ hs (hx i b hb')
          exact r1.free (fun b hb => hb) r2
        · rintro e w' ⟨x, g', rfl, q1, q2, q3⟩
          have hsame : ∀ b, b < w.heap.size → w'.heap[b]? = w.heap[b]? := fun b hb => q2.frame b hb (fun o => blk_deads _ _ _ _)
          have hL : Later g w g w' := ⟨rfl, fun _ _ _ h => h, fun _ h => h, fun b hb => hsame b (s.immlt b hb), q2.shape⟩
          have s' : Sim g h w' := ⟨fun o x hx hl => by
              obtain ⟨b, base, h1, h2, h3⟩ := s.obs o x hx hl
              exact ⟨b, base, h1, Nat.lt_of_lt_of_le h2 q2.size, h3.later hL (hsame b h2)⟩,
            s.inj, s.imm, fun b hb => Nat.lt_of_lt_of_le (s.immlt b hb) q2.size, s.loclt⟩
          exact ⟨x, g, rfl, s', ⟨rfl, fun _ _ _ h => h, fun _ h => h, fun _ h => .inl h, q2.size, q2.shape, fun b hb _ => hsame b hb, fun o b hb _ => ⟨o, hb⟩, q2.os, q2.tape, q2.output⟩, q3.plain hpl⟩

/-- At the start of a call from anywhere: nobody owns anything. -/
theorem sim_start (P : Program) (w : World) : Sim ⟨fun _ _ => none, fun b => b < w.heap.size, codesOf P⟩ [] w :=
  ⟨fun o x hx => by simp at hx, fun o o' b hb => by simp [blk] at hb, fun o b hb => by simp [blk] at hb, fun b hb => hb, fun o t b hb => by cases hb⟩

theorem below_of {g g' : G} {w w' : World} {h' : Heap} (e : Ext g [] w g' h' w') : RowKit.Below w.heap.size w w' :=
  ⟨e.os, e.tape, e.output, e.size, fun k hk => e.frame k hk (fun o => by simp [blk])⟩

/-- A call from anywhere. -/
theorem callA_from (hm : P.follows .mixedOrders = true) {p : AProg} (hp : TrProg P p) {N n : Nat} {f : FuncId} {args : List V} {v : V} {h' : Heap} (hc : callA p N n f args [] = some (v, h')) (w : World) (xs : Array Value) (hl : xs.size = args.length)
    (hx : ∀ i c, args[i]? = some c → VRel ⟨fun _ _ => none, fun b => b < w.heap.size, codesOf P⟩ w c (xs.getD i undef)) :
    Calls P f xs w fun e w' => ∃ x g', e = .returned x ∧ VRel g' w' v x ∧ RowKit.Below w.heap.size w w' :=
  ((callA_ok hm hp N n f args [] v h' hc).2 _ w xs (sim_start P w) hl hx).mono fun e w' ⟨x, g', h1, h2, h3, h4⟩ => ⟨x, g', h1, h4, below_of h3⟩

theorem law_from (hm : P.follows .mixedOrders = true) {p : AProg} (hp : TrProg P p) {N n : Nat} {f : FuncId} {args : List V} {h' : Heap} (hc : callA p N n f args [] = some (.bool true, h')) (w : World) (xs : Array Value) (hl : xs.size = args.length)
    (hx : ∀ i c, args[i]? = some c → VRel ⟨fun _ _ => none, fun b => b < w.heap.size, codesOf P⟩ w c (xs.getD i undef)) :
    Calls P f xs w fun e w' => e = .returned (.bool true) ∧ RowKit.Below w.heap.size w w' :=
  (callA_from hm hp hc w xs hl hx).mono fun e w' ⟨x, g', h1, h2, h3⟩ => by cases h2; exact ⟨h1, h3⟩

end Go.Am
