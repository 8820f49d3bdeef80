import Derived.Test.YtmaijpjjopechaaK1
import Derived.KernelRfl
set_option linter.unusedVariables false
set_option linter.unusedSimpArgs false
namespace Go.Am
variable {P : Program}
def resA1 (get : Nat → Option Ob) (t : List V) : ARes → Option V
  | .tmp i => some (t.getD i .junk)
  | .cell i ag => (loadA get (nAg ag) (t.getD i .junk)).bind (packA ag)
def resA (get : Nat → Option Ob) (t : List V) : List ARes → Option (List V)
  | [] => some []
  | r :: rs => match resA1 get t r, resA get t rs with | some v, some vs => some (v :: vs) | _, _ => none
def packR : List V → V
  | [v] => v
  | vs => .tup vs
abbrev AProg := List (Option AFunc)
def pureOf (p : AProg) (f : FuncId) : FMode := match p[f]? with | some (some fn) => fn.mode | _ => .keep
def bodyA (p : AProg) (call : Caller) (N fb : Nat) (fn : AFunc) (args : List V) (h : Heap) : Option (V × Heap) :=
  match exec (pureOf p) call N fb fn.body (args ++ List.replicate (fn.nt - args.length) .junk) h with
  | some (.norm, t, h') => match resA (fun o => h'[o]?) t fn.res with | some vs => some (packR vs, h') | none => none
  | some (.ret, t, h') => match resA (fun o => h'[o]?) t fn.res with | some vs => some (packR vs, h') | none => none
  | _ => none
def sealDepth : Nat := 64
def yieldA (p : AProg) (call : Caller) (N : Nat) (args : List V) (h : Heap) : Option (V × Heap) :=
  match args with
  | .yld o ver :: xs =>
    match h[o]? with
    | some ⟨v, .loop _ _ t fb f k⟩ =>
      if v = ver then
        match p[f]? with
        | some (some af) =>
          match (rangesA af.body)[k]? with
          | some (ps, asn, body) =>
            if xs.length = ps.length then
              match exec (pureOf p) call N fb asn (setPs ps xs t) h with
              | some (.norm, t1, h1) =>
                match h1[o]? with
                | some ⟨v1, .loop 0 p1 t2 fb2 f2 k2⟩ =>
                  if v1 = ver then
                    match exec (pureOf p) call N fb body t1 (h1.set o ⟨ver, .loop 1 p1 t2 fb2 f2 k2⟩) with
                    | some (x, _, h2) =>
                      match h2[o]? with
                      | some ⟨v2, .loop _ _ t3 fb3 f3 k3⟩ =>
                        if v2 = ver then
                          match x with
                          | .norm => some (.bool true, h2.set o ⟨ver, .loop 0 none t3 fb3 f3 k3⟩)
                          | .exit id => some (.bool false, h2.set o ⟨ver, .loop 2 (some (some id)) t3 fb3 f3 k3⟩)
                          | .ret => some (.bool false, h2.set o ⟨ver, .loop 2 (some none) t3 fb3 f3 k3⟩)
                        else none
                      | _ => none
                    | none => none
                  else none
                | _ => none
              | _ => none
            else none
          | none => none
        | _ => none
      else none
    | _ => none
  | _ => none
def callA (p : AProg) (N : Nat) : Nat → Caller
  | 0, _, _, _ => none
  | n + 1, f, args, h =>
    if f = YLD then yieldA p (callA p N n) N args h else
    match p[f]? with
    | some (some fn) =>
      if args.length = fn.nargs then
        match fn.mode with
        | .keep => bodyA p (callA p N n) N h.length fn args (h ++ deads fn.sites)
        | .auto =>
          if V.freeL args then
            match bodyA p (callA p N n) N 0 fn args (deads fn.sites) with
            | some (v, h') => match V.shut (fun o => h'[o]?) sealDepth v with | some v' => some (v', h) | none => none
            | none => none
          else bodyA p (callA p N n) N h.length fn args (h ++ deads fn.sites)
        | .pure =>
          if V.freeL args then
            match bodyA p (callA p N n) N 0 fn args (deads fn.sites) with
            | some (v, h') => match V.shut (fun o => h'[o]?) sealDepth v with | some v' => some (v', h) | none => none
            | none => none
          else none
        | .look =>
          match args.mapM (V.shut (fun o => h[o]?) sealDepth) with
          | some args' =>
            match bodyA p (callA p N n) N 0 fn args' (deads fn.sites) with
            | some (v, _) => if v.plain then some (v, h) else none
            | none => none
          | none => none
      else none
    | _ => none
def trRes (P : Program) : ResultVar → Option ARes
  | .tmp t => some (.tmp t)
  | .cell a t => (agOf P t).map (.cell a)
structure TrFunc (P : Program) (p : AProg) (f : Nat) (fn : Func) (af : AFunc) : Prop where
  named : (fn.name == "runtime.NumGoroutine") = false
  body : ∃ c al lt, fn.body = some c ∧ trCode P (pureOf p) al f false 0 lt c = some af.body
  nt : af.nt = fn.ntmps
  res : fn.results.toList.mapM (trRes P) = some af.res
def TrProg (P : Program) (p : AProg) : Prop := ∀ (f : Nat) (af : AFunc), p[f]? = some (some af) → ∃ fn, P.funcs[f]? = some fn ∧ TrFunc P p f fn af
theorem sim_empty {g : G} {h : Heap} {w : World} (s : Sim g h w) (n : Nat) : Sim ⟨fun _ _ => none, g.imm, g.code⟩ (deads n) w := by
  have hd : ∀ (o : Nat) (x : Ob), (deads n)[o]? = some x → x.bd.lives = false := fun o x hx => by
    simp only [deads, List.getElem?_replicate] at hx
    split at hx
    · cases hx; rfl
    · cases hx
  refine ⟨fun o x hx hl => ?_, fun o o' b h1 => ?_, fun o b h1 => ?_, s.immlt, fun o t b h1 => by cases h1⟩
  · rw [hd o x hx] at hl; cases hl
  · obtain ⟨x, base, hx, hl, -⟩ := blk_some h1
    rw [hd o x hx] at hl; cases hl
  · obtain ⟨x, base, hx, hl, -⟩ := blk_some h1
    rw [hd o x hx] at hl; cases hl
theorem blk_deads (g : G) (n o b : Nat) : blk g (deads n) o ≠ some b := by
  intro h
  obtain ⟨x, base, hx, hl, -⟩ := blk_some h
  simp only [deads, List.getElem?_replicate] at hx
  split at hx
  · cases hx; cases hl
  · cases hx
theorem sim_back {g : G} {h : Heap} {w : World} (s : Sim g h w) {n : Nat} {g1 : G} {h1 : Heap} {w1 : World} (s1 : Sim g1 h1 w1) (e : Ext ⟨fun _ _ => none, g.imm, g.code⟩ (deads n) w g1 h1 w1) :
    let g2 : G := ⟨g.loc, fun b => g.imm b ∨ (w.heap.size ≤ b ∧ (sealG g1 h1).imm b), g.code⟩
    Sim g2 h w1 ∧ Ext g h w g2 h w1 ∧ ∀ b, (sealG g1 h1).imm b → g2.imm b := by
  intro g2
  have hsame : ∀ b, b < w.heap.size → w1.heap[b]? = w.heap[b]? := fun b hb => e.frame b hb (fun o => blk_deads _ _ _ _)
  have hL : Later g w g2 w1 := ⟨rfl, fun _ _ _ h => h, fun _ h => .inl h, fun b hb => hsame b (s.immlt b hb), e.shape⟩
  have hlt : ∀ o b, blk g h o = some b → b < w.heap.size := fun o b hb => by
    obtain ⟨x, base, hx, hl, hg⟩ := blk_some hb
    obtain ⟨b', base', hg', hlt, -⟩ := s.obs o x hx hl
    rw [hg] at hg'
    cases hg'
    exact hlt
  have himm : ∀ b, (sealG g1 h1).imm b → g2.imm b := by
    intro b hb
    rcases hb with hb | ⟨o, hb⟩
    · rcases e.imm' b hb with h' | h'
      · exact .inl h'
      · exact .inr ⟨h', .inl hb⟩
    · rcases Nat.lt_or_ge b w.heap.size with h' | h'
      · obtain ⟨o', ho'⟩ := e.own o b hb h'
        exact absurd ho' (blk_deads _ _ _ _)
      · exact .inr ⟨h', .inr ⟨o, hb⟩⟩
  refine ⟨⟨fun o x hx hl => ?_, s.inj, fun o b hb hi => ?_, fun b hb => ?_, s.loclt⟩,
    ⟨rfl, fun _ _ _ h => h, fun _ h => .inl h, fun b hb => ?_, e.size, e.shape, fun b hb _ => hsame b hb, fun o b hb _ => ⟨o, hb⟩, e.os, e.tape, e.output⟩, himm⟩
  · obtain ⟨b, base, h1, h2, h3⟩ := s.obs o x hx hl
    exact ⟨b, base, h1, Nat.lt_of_lt_of_le h2 e.size, h3.later hL (hsame b h2)⟩
  · rcases hi with hi | ⟨hi, -⟩
    · exact s.imm o b hb hi
    · have := hlt o b hb; omega
  · rcases hb with hb | ⟨-, hb⟩
    · exact Nat.lt_of_lt_of_le (s.immlt b hb) e.size
    · rcases hb with hb | ⟨o, hb⟩
      · exact s1.immlt b hb
      · obtain ⟨x, base, hx, hl, hg⟩ := blk_some hb
        obtain ⟨b', base', hg', hlt, -⟩ := s1.obs o x hx hl
        rw [hg] at hg'
        cases hg'
        exact hlt
  · rcases hb with hb | ⟨hb, -⟩
    · exact .inl hb
    · exact .inr hb
theorem load_runs {g : G} {h : Heap} {w : World} (s : Sim g h w) {p v : V} {x : Value} {t : TypeId} {ag : Option Nat} (ht : agOf P t = some ag) (hp : VRel g w p x)
    {cs : List V} (hl : loadA (fun o => h[o]?) (nAg ag) p = some cs) (hv : packA ag cs = some v) : ∃ a y, x = .pointer (some a) ∧ (loadVar t a).run P w = .ok y w ∧ VRel g w v y := by
  obtain ⟨b, off, xs, rfl, hxl, hcl, hcell, hrel⟩ := goes_loads s hp hl
  cases ag with
  | some n =>
    simp only [packA, Option.some.injEq] at hv
    subst hv
    have hxl' : xs.length = n := hxl
    refine ⟨_, _, rfl, ?_, hrel.agg⟩
    simp only [nAg, loadVar, Sem.run_bind, Result.andThen_ok, run_isAgg ht, Option.isSome_some, if_true, run_sizeOf_ag ht, run_loads hxl' hcell, Sem.run_pure]
  | none =>
    simp only [nAg] at hxl hcl
    obtain ⟨c, rfl⟩ : ∃ c, cs = [c] := by
      cases cs with
      | nil => simp at hcl
      | cons c cs => cases cs with
        | nil => exact ⟨c, rfl⟩
        | cons d cs => simp at hcl
    obtain ⟨y, rfl⟩ : ∃ y, xs = [y] := by
      cases xs with
      | nil => simp at hxl
      | cons c cs => cases cs with
        | nil => exact ⟨c, rfl⟩
        | cons d cs => simp at hxl
    simp only [packA, List.head?_cons, Option.some.injEq] at hv
    subst hv
    refine ⟨_, y, rfl, ?_, hrel.2 0 _ _ rfl rfl⟩
    have hc := hcell 0 y rfl
    simp only [Nat.add_zero] at hc
    simp [loadVar, run_isAgg ht, run_load, hc]
theorem run_results {g : G} {h : Heap} {w : World} (s : Sim g h w) {t : List V} {tmps : Array Value} (r : TRel g w t tmps) {fn : Func} {rs : List ARes} (hrs : fn.results.toList.mapM (trRes P) = some rs) {vs : List V} (hv : resA (fun o => h[o]?) t rs = some vs) :
    ∃ x, (results fn tmps).run P w = .ok x w ∧ VRel g w (packR vs) x := by
  have hslot : ∀ i, VRel g w (t.getD i .junk) (tmps.getD i undef) := fun i => by
    rcases Nat.lt_or_ge i t.length with h | h
    · rw [List.getD_eq_getElem?_getD, List.getElem?_eq_getElem h]
      exact r.2 i _ (List.getElem?_eq_getElem h)
    · rw [List.getD_eq_getElem?_getD, List.getElem?_eq_none h]
      exact .junk _
  have key : ∀ (F : ResultVar → Sem Value), (∀ i, F (.tmp i) = pure (tmps.getD i undef)) → (∀ i ty, F (.cell i ty) = do loadVar ty (← asAddr (tmps.getD i undef))) → ∀ (l : List ResultVar) (rs : List ARes) (vs : List V), l.mapM (trRes P) = some rs → resA (fun o => h[o]?) t rs = some vs →
      ∃ xs : List Value, (l.mapM F).run P w = .ok xs w ∧ Cells g w vs xs := by
    intro F F1 F2 l
    induction l with
    | nil =>
      intro rs vs h1 h2
      simp at h1
      subst h1
      simp [resA] at h2
      subst h2
      exact ⟨[], rfl, rfl, by simp⟩
    | cons a l ih =>
      intro rs vs h1 h2
      simp only [List.mapM_cons, Option.bind_eq_bind, Option.bind_eq_some_iff, Option.pure_def, Option.some.injEq] at h1
      obtain ⟨ra, hra, rl, hrl, rfl⟩ := h1
      simp only [resA] at h2
      split at h2
      case h_2 => cases h2
      rename_i v vs' e1 e2
      cases h2
      obtain ⟨xs, q1, q2⟩ := ih rl vs' hrl e2
      have one : ∃ x, (F a).run P w = .ok x w ∧ VRel g w v x := by
        cases a with
        | tmp i =>
          simp only [trRes, Option.some.injEq] at hra
          subst hra
          simp only [resA1, Option.some.injEq] at e1
          subst e1
          exact ⟨_, by rw [F1]; rfl, hslot i⟩
        | cell i ty =>
          simp only [trRes, Option.map_eq_some_iff] at hra
          obtain ⟨ag, hag, rfl⟩ := hra
          simp only [resA1, Option.bind_eq_some_iff] at e1
          obtain ⟨cs, hl, hp⟩ := e1
          obtain ⟨ad, x, hx, hrun, hr⟩ := load_runs (P := P) s hag (hslot i) hl hp
          refine ⟨x, ?_, hr⟩
          rw [F2, hx]
          simp [asAddr, hrun]
      obtain ⟨x, hx, hr⟩ := one
      refine ⟨x :: xs, ?_, ⟨by simp [q2.1], fun i c y hc hy => ?_⟩⟩
      · rw [List.mapM_cons]
        simp only [Sem.run_bind, hx, Result.andThen_ok, q1, Sem.run_pure]
      · cases i with
        | zero => simp at hc hy; subst hc; subst hy; exact hr
        | succ i => simp at hc hy; exact q2.2 i c y hc hy
  have hex : ∃ xs : List Value, (results fn tmps).run P w = .ok (if h : xs.toArray.size = 1 then xs.toArray[0] else .tuple xs.toArray) w ∧ Cells g w vs xs := by
    unfold results
    rw [Array.mapM_eq_mapM_toList]
    obtain ⟨xs, h1, h2⟩ := key (fun | .tmp t => pure (tmps.getD t undef) | .cell a t => do loadVar t (← asAddr (tmps.getD a undef))) (fun i => rfl) (fun i ty => rfl) _ _ _ hrs hv
    refine ⟨xs, ?_, h2⟩
    have e : ∀ (m : Sem (List Value)), (List.toArray <$> m).run P w = (m.run P w).andThen fun a w' => .ok a.toArray w' := fun m => by
      show ((m >>= fun a => pure a.toArray).run P w) = _
      rw [Sem.run_bind]
      congr 1
    rw [Sem.run_bind, e]
    erw [h1]
    rfl
  obtain ⟨xs, hrun, h2⟩ := hex
  refine ⟨_, hrun, ?_⟩
  have tup : ∀ (vs : List V) (xs : List Value), Cells g w vs xs → VRel g w (.tup vs) (.tuple xs.toArray) := by
    intro vs xs h
    have := h.agg
    cases this with
    | agg _ _ hx hc => exact .tup _ _ hx hc
  cases vs with
  | nil =>
    have hx : xs = [] := List.length_eq_zero_iff.1 h2.1
    subst hx
    exact tup [] [] h2
  | cons v vs =>
    cases vs with
    | nil =>
      obtain ⟨y, rfl⟩ : ∃ y, xs = [y] := by
        have := h2.1
        cases xs with
        | nil => simp at this
        | cons y ys => cases ys with
          | nil => exact ⟨y, rfl⟩
          | cons z zs => simp at this
      exact h2.2 0 v y rfl rfl
    | cons v' vs =>
      have hne : ¬ xs.toArray.size = 1 := by have := h2.1; simp at this ⊢; omega
      rw [dif_neg hne]
      exact tup _ _ h2
theorem sim_shutm {g : G} {h : Heap} {w : World} (s : Sim g h w) {r : Nat} (hr : w.heap[r]? = some (.deferred (some []))) (ho : ∀ o, blk g h o ≠ some r) (hi : ¬ g.imm r) :
    Sim g h (w.putObj r (.deferred none)) ∧ Later g w g (w.putObj r (.deferred none)) := by
  have hshape : ∀ k y, w.shape? k = some y → (w.putObj r (.deferred none)).shape? k = some y := by
    intro k y hk
    by_cases e : k = r
    · subst e
      simp [World.shape?, hr] at hk
    · unfold World.shape? at hk ⊢
      rw [World.putObj_heap_other e]
      exact hk
  have hL : Later g w g (w.putObj r (.deferred none)) := ⟨rfl, fun _ _ _ h => h, fun _ h => h, fun k hk => World.putObj_heap_other (fun e => hi (e ▸ hk)), hshape⟩
  refine ⟨⟨fun o x hx hl => ?_, s.inj, s.imm, fun b hb => by rw [World.putObj_size]; exact s.immlt b hb, s.loclt⟩, hL⟩
  obtain ⟨b, base, h1, h2, h3⟩ := s.obs o x hx hl
  refine ⟨b, base, h1, by rw [World.putObj_size]; exact h2, h3.later hL (World.putObj_heap_other ?_)⟩
  rintro rfl
  exact ho o (blk_of hx hl h1)
theorem Ext.shutm {g0 g : G} {h0 h : Heap} {w0 w : World} (e : Ext g0 h0 w0 g h w) {r : Nat} (hr : w.heap[r]? = some (.deferred (some []))) (hm : w0.heap.size ≤ r) : Ext g0 h0 w0 g h (w.putObj r (.deferred none)) := by
  refine ⟨e.code, e.loc, e.imm, e.imm', by rw [World.putObj_size]; exact e.size, fun k y hk => ?_, fun b hb hno => ?_, e.own, e.os, e.tape, e.output⟩
  · have := e.shape k y hk
    by_cases ek : k = r
    · subst ek
      simp [World.shape?, hr] at this
    · unfold World.shape? at this ⊢
      rw [World.putObj_heap_other ek]
      exact this
  · rw [World.putObj_heap_other (by omega)]
    exact e.frame b hb hno
theorem leaves_marks {g0 : G} {h0 : Heap} {w0 : World} {fn : Func} {F : Fence} {n : Nat} {tmps : Array Value} {t : List V} {rs : List ARes} (hrs : fn.results.toList.mapM (trRes P) = some rs) {g : G} {h : Heap} {vs : List V} (hv : resA (fun o => h[o]?) t rs = some vs)
    {R : Ending → World → Prop} (hR : ∀ w x, Sim g h w → Ext g0 h0 w0 g h w → VRel g w (packR vs) x → R (.returned x) w) :
    ∀ (L : List Nat) (w : World), Sim g h w → Ext g0 h0 w0 g h w → TRel g w t tmps → L.Nodup → (∀ r ∈ L, w0.heap.size ≤ r ∧ r < w.heap.size ∧ w.heap[r]? = some (.deferred (some [])) ∧ (∀ o, blk g h o ≠ some r) ∧ ¬ g.imm r) →
      LeavesInM F n P fn tmps R (L.map (fun r => ({ target := .collected r, args := #[] } : Deferred))) .returning w
  | [], w, s, e, r, _, _ => by
    obtain ⟨y, hy, hyr⟩ := run_results s r hrs hv
    exact ⟨y, hy, hR w y s e hyr⟩
  | d :: L, w, s, e, r, hn, hall => by
    obtain ⟨h1, h2, h3, h4, h5⟩ := hall d (by simp)
    obtain ⟨s', hL⟩ := sim_shutm s h3 h4 h5
    rw [List.nodup_cons] at hn
    refine ⟨by simp, .inl ⟨d, _, rfl, run_takeDeferred h3, leaves_marks hrs hv hR L _ s' (e.shutm h3 h1) ⟨r.1, fun i v hi => (r.2 i v hi).later hL⟩ hn.2 fun r' hr' => ?_⟩⟩
    obtain ⟨k1, k2, k3, k4, k5⟩ := hall r' (by simp [hr'])
    refine ⟨k1, by rw [World.putObj_size]; exact k2, ?_, k4, k5⟩
    have hne : r' ≠ d := by rintro rfl; exact hn.1 hr'
    rw [World.putObj_heap_other hne]
    exact k3
theorem sim_body {p : AProg} (hm : P.follows .mixedOrders = true) {call : Caller} (hcall : CallOk P call) (hpure : PureOk (pureOf p) call) {N fb : Nat} {f : FuncId} {fn : Func} {af : AFunc} (hf : P.funcs[f]? = some fn) (ht : TrFunc P p f fn af)
    {args : List V} {h : Heap} {v : V} {h' : Heap} (hb : bodyA p call N fb af args h = some (v, h')) {g : G} {w : World} {xs : Array Value} (hgc : g.code = codesOf P) (s : Sim g h w) (hl : xs.size = args.length) (hx : ∀ i c, args[i]? = some c → VRel g w c (xs.getD i undef)) :
    Calls P f xs w fun e w' => ∃ x g', e = .returned x ∧ Sim g' h' w' ∧ Ext g h w g' h' w' ∧ VRel g' w' v x := by
  obtain ⟨c, al, hint, hc, htc⟩ := ht.body
  have hcd : ∀ i lc, (rangesOf c)[i]? = some lc → codesOf P f (0 + i) = some lc := fun i lc hi => by
    rw [Nat.zero_add]
    simp only [codesOf, hf, hc]
    exact hi
  have r : TRel g w (args ++ List.replicate (af.nt - args.length) .junk) (xs ++ Array.replicate (fn.ntmps - xs.size) undef) := by
    refine ⟨by simp [hl, ht.nt], fun i u hi => ?_⟩
    rcases Nat.lt_or_ge i args.length with hlt | hge
    · rw [List.getElem?_append_left hlt] at hi
      have := hx i u hi
      rw [Array.getD_eq_getD_getElem?] at this ⊢
      rw [Array.getElem?_append_left (by omega)]
      exact this
    · rw [List.getElem?_append_right hge, List.getElem?_replicate] at hi
      split at hi
      · cases hi
        exact .junk _
      · cases hi
  have post : ∀ (x : Ex) (t : List V) (vs : List V), x.to = .normal ∨ x.to = .ret → resA (fun o => h'[o]?) t af.res = some vs → v = packR vs → ∀ g' w' a', Sim g' h' w' → Ext g h w g' h' w' → TRel g' w' t a'.tmps → Mk w.heap.size g' h' w' a'.defers →
      bodyPostM (FR none) 0 P fn (fun e w' => ∃ x g', e = .returned x ∧ Sim g' h' w' ∧ Ext g h w g' h' w' ∧ VRel g' w' v x) x.to a' w' := by
    intro x t vs hx hr hv g' w' a' q1 q2 q3 q4
    obtain ⟨-, L, hL, hn, hall⟩ := q4
    subst hv
    have : LeavesInM (FR none) 0 P fn a'.tmps (fun e w' => ∃ x g', e = .returned x ∧ Sim g' h' w' ∧ Ext g h w g' h' w' ∧ VRel g' w' (packR vs) x) a'.defers .returning w' := by
      rw [hL]
      exact leaves_marks ht.res hr (fun w x s e hv => ⟨x, g', rfl, s, e, hv⟩) L w' q1 q2 q3 hn hall
    rcases hx with hx | hx <;> rw [hx] <;> exact this
  refine (callsIn_wide (n := 0)).1 (callsIn_of_wp_marks (F := FR none) hf hc trivial ?_)
  unfold bodyA at hb
  split at hb
  · rename_i t k he
    split at hb
    · rename_i vs hr
      simp only [Option.some.injEq, Prod.mk.injEq] at hb
      obtain ⟨rfl, rfl⟩ := hb
      exact sim_code (rd := none) (nn := 0) (inR := false) hm hcall hpure (fun _ => rfl) c 0 hint af.body htc hcd _ g h w _ _ _ _ _ _ he hgc s r (Mk.nil (Nat.le_refl _)) (post .norm t vs (.inl rfl) hr rfl)
    · cases hb
  · rename_i t k he
    split at hb
    · rename_i vs hr
      simp only [Option.some.injEq, Prod.mk.injEq] at hb
      obtain ⟨rfl, rfl⟩ := hb
      exact sim_code (rd := none) (nn := 0) (inR := false) hm hcall hpure (fun _ => rfl) c 0 hint af.body htc hcd _ g h w _ _ _ _ _ _ he hgc s r (Mk.nil (Nat.le_refl _)) (post .ret t vs (.inr rfl) hr rfl)
    · cases hb
  · cases hb
theorem callA_pure (p : AProg) (N n : Nat) : PureOk (pureOf p) (callA p N n) := by
  constructor
  · intro f args h v h1 hny hp hc
    cases n with
    | zero => simp [callA] at hc
    | succ n =>
      unfold pureOf at hp
      cases hfn : p[f]? with
      | none => simp [hfn] at hp
      | some o =>
        cases o with
        | none => simp [hfn] at hp
        | some fn =>
          simp only [hfn] at hp
          have e : ∀ h, callA p N (n + 1) f args h = if args.length = fn.nargs then if V.freeL args then
              match bodyA p (callA p N n) N 0 fn args (deads fn.sites) with
              | some (v, h') => match V.shut (fun o => h'[o]?) sealDepth v with | some v' => some (v', h) | none => none
              | none => none
            else none else none := by
            intro h
            simp only [callA, if_neg hny, hfn, hp]
          rw [e] at hc
          split at hc
          case isFalse => cases hc
          rename_i hl
          split at hc
          case isFalse => cases hc
          rename_i hfr
          split at hc
          case h_2 => cases hc
          rename_i v0 h0 hb
          split at hc
          case h_2 => cases hc
          rename_i v' hs
          simp only [Option.some.injEq, Prod.mk.injEq] at hc
          obtain ⟨rfl, rfl⟩ := hc
          refine ⟨rfl, fun h' => ?_⟩
          rw [e, if_pos hl, if_pos hfr]
          simp only [hb, hs]
  · intro f args h v h1 hny hp hc
    cases n with
    | zero => simp [callA] at hc
    | succ n =>
      unfold pureOf at hp
      cases hfn : p[f]? with
      | none => simp [hfn] at hp
      | some o =>
        cases o with
        | none => simp [hfn] at hp
        | some fn =>
          simp only [hfn] at hp
          have e : ∀ h, callA p N (n + 1) f args h = if args.length = fn.nargs then
              match args.mapM (V.shut (fun o => h[o]?) sealDepth) with
              | some args' =>
                match bodyA p (callA p N n) N 0 fn args' (deads fn.sites) with
                | some (v, _) => if v.plain then some (v, h) else none
                | none => none
              | none => none
            else none := by
            intro h
            simp only [callA, if_neg hny, hfn, hp]
          rw [e] at hc
          split at hc
          case isFalse => cases hc
          rename_i hl
          split at hc
          case h_2 => cases hc
          rename_i args' hm
          split at hc
          case h_2 => cases hc
          rename_i v0 h0 hb
          split at hc
          case isFalse => cases hc
          rename_i hpl
          simp only [Option.some.injEq, Prod.mk.injEq] at hc
          obtain ⟨rfl, rfl⟩ := hc
          refine ⟨rfl, fun hflat h' ha => ?_⟩
          have hm' : args.mapM (V.shut (fun o => h'[o]?) sealDepth) = some args' := by
            rw [← hm]
            refine (mapM_congr fun c hc => shut_local (S := reachC h (V.objsL args)) (fun o ho => ha o ho) (fun o ho x hx i hi => ?_) sealDepth c (fun o ho => reachC_sub h _ o (mem_objsL hc o ho))).symm
            have := List.all_eq_true.1 hflat o ho
            simp only [namedBy, hx, List.all_eq_true] at this
            simpa using this i hi
          rw [e, if_pos hl]
          simp only [hm', hb, hpl, if_true]
theorem foldl_rel {g : G} {w : World} : ∀ (ps : List Nat) (xs : List V) (ys : List Value) (t : List V) (tmps : Array Value), ps.length = xs.length → ys.length = xs.length → (∀ (i : Nat) (c : V) (y : Value), xs[i]? = some c → ys[i]? = some y → VRel g w c y) → TRel g w t tmps →
    TRel g w (setPs ps xs t) ((ps.zip ys).foldl (fun tmps (t, a) => tmps.setIfInBounds t a) tmps)
  | [], xs, ys, t, tmps, _, _, _, r => r
  | p :: ps, [], ys, t, tmps, h, _, _, r => by simp at h
  | p :: ps, x :: xs, [], t, tmps, _, h, _, r => by simp at h
  | p :: ps, x :: xs, y :: ys, t, tmps, h1, h2, hr, r => by
    have := foldl_rel ps xs ys (t.set p x) (tmps.setIfInBounds p y) (by simpa using h1) (by simpa using h2) (fun i c z h3 h4 => hr (i + 1) c z (by simpa using h3) (by simpa using h4)) (by
      have := TRel.put (a := { tmps := tmps, defers := [] }) r (hr 0 x y rfl rfl) (some p)
      exact this)
    exact this
theorem yieldA_ok (hm : P.follows .mixedOrders = true) {p : AProg} (hp : TrProg P p) {call : Caller} (hcall : CallOk P call) (hpure : PureOk (pureOf p) call) {N : Nat} {o ver : Nat} {args : List V} {h : Heap} {v : V} {h' : Heap} (hc : yieldA p call N (.yld o ver :: args) h = some (v, h')) :
    ∀ g w (xs : Array Value) b rd n, g.code = codesOf P → Sim g h w → g.loc o ver = some (b, 0) → xs.size = args.length → (∀ i c, args[i]? = some c → VRel g w c (xs.getD i undef)) →
      ∃ fn tmps asn body, (Instr.yield b xs).run P w = .ok (.round b fn tmps asn body) w ∧
        RoundIn (FR rd) n P b fn tmps asn body w fun e w' => ∃ x g', e = .returned x ∧ Sim g' h' w' ∧ Ext g h w g' h' w' ∧ VRel g' w' v x := by
  intro g w xs b rd n hgc s hg hl hx
  simp only [yieldA] at hc
  split at hc
  case h_2 => cases hc
  rename_i v0 st0 pd0 t fb f k hob
  split at hc
  case isFalse => cases hc
  rename_i hv0
  subst hv0
  split at hc
  case h_2 => cases hc
  rename_i af haf
  split at hc
  case h_2 => cases hc
  rename_i ps asnA bodyA' hra
  split at hc
  case isFalse => cases hc
  rename_i hlen
  split at hc
  case h_2 => cases hc
  rename_i t1 h1 hex1
  split at hc
  case h_2 => cases hc
  rename_i v1 p1 t2 fb2 f2 k2 hob1
  split at hc
  case isFalse => cases hc
  rename_i hv1
  subst hv1
  split at hc
  case h_2 => cases hc
  rename_i x t4 h2 hex2
  split at hc
  case h_2 => cases hc
  rename_i v2 st3 pd3 t3 fb3 f3 k3 hob2
  split at hc
  case isFalse => cases hc
  rename_i hv2
  subst hv2
  obtain ⟨b0, rec, q1, q2, q3, q4, q5, q6, q7, q8, q9⟩ := sim_loop s hob
  rw [hg] at q1
  cases q1
  obtain ⟨fnc, hf, ht⟩ := hp f af haf
  obtain ⟨c, al, lt, hcb, htc⟩ := ht.body
  have hcode : (rangesOf c)[k]? = some ⟨rec.params, rec.assign, rec.body⟩ := by
    rw [hgc] at q7
    simpa only [codesOf, hf, hcb] using q7
  obtain ⟨-, -, hr⟩ := trCode_ranges c _ _ _ _ htc
  obtain ⟨ra, lt1, lt2, k1, k2', hra', hps, hasn, hbody⟩ := hr k _ hcode
  rw [hra] at hra'
  cases hra'
  simp only at hps hasn hbody
  have nest : ∀ {c : Code} {kk : Nat} {l : LT} {A : ACode}, trCode P (pureOf p) al f true kk l c = some A → ∀ i lc, (rangesOf c)[i]? = some lc → codesOf P f (kk + i) = some lc := fun hh i lc hi => by
    rw [(trCode_ranges _ _ _ _ _ hh).1 rfl] at hi
    simp at hi
  have hsz : xs.size = rec.params.size := by
    rw [hl, hlen, ← hps]
    simp
  refine ⟨rec.fn, _, rec.assign, rec.body, run_yield q4 hsz, roundIn_of_wpIn trivial ?_⟩
  have r0 : TRel g w (setPs ps args t) ((rec.params.zip xs).foldl (fun tmps (t, a) => tmps.setIfInBounds t a) rec.tmps) := by
    have e1 : (rec.params.zip xs).foldl (fun tmps (t, a) => tmps.setIfInBounds t a) rec.tmps = (ps.zip xs.toList).foldl (fun tmps (t, a) => tmps.setIfInBounds t a) rec.tmps := by
      rw [← Array.foldl_toList, Array.toList_zip, hps]
    rw [e1]
    refine foldl_rel ps args xs.toList t rec.tmps (by omega) (by simpa using hl) (fun i c y h1 h2 => ?_) ⟨q8, q9⟩
    have := hx i c h1
    rw [Array.getD_eq_getD_getElem?] at this
    have h3 : xs[i]? = some y := by simpa using h2
    rw [h3] at this
    exact this
  refine sim_code (rd := some b) (nn := n) (inR := true) (m := 0) hm hcall hpure (fun h => by cases h) rec.assign _ lt1 asnA hasn (nest hasn) _ g h w _ _ _ _ _ _ hex1 hgc s r0 (Mk.nil (Nat.zero_le _)) ?_
  intro g1 w1 a1 s1 x1 r1 d1
  obtain ⟨b1, rec1, u1, u2, u3, u4, u5, u6, u7, u8, u9⟩ := sim_loop s1 hob1
  have hg1 := x1.loc _ _ _ hg
  rw [hg1] at u1
  cases u1
  have hready : rec1.state = .ready := by
    revert u5
    cases rec1.state <;> intro u5 <;> first | rfl | (simp [stateN] at u5)
  refine ⟨_, run_beginRound u4 hready, ?_⟩
  obtain ⟨s2, x2⟩ := sim_turn s1 hob1 hg1 u4 (rec' := { rec1 with state := .busy }) (st' := 1) (pend' := p1) rfl u6 rfl rfl rfl rfl
  generalize w1.putObj b (.loop { rec1 with state := .busy }) = w2 at s2 x2 ⊢
  have e12 := x1.trans x2
  refine sim_code (rd := some b) (nn := n) (inR := true) (m := 0) hm hcall hpure (fun h => by cases h) rec.body _ lt2 bodyA' hbody (nest hbody) _ g1 _ w2 _ _ _ _ _ _ hex2 (e12.code.trans hgc) s2 (r1.ext x2 s1) (d1.ext x2) ?_
  intro g3 w3 a3 s3 x3 r3 _
  obtain ⟨b3, rec3, y1, y2, y3, y4, y5, y6, y7, y8, y9⟩ := sim_loop s3 hob2
  have hg3 := x3.loc _ _ _ hg1
  rw [hg3] at y1
  cases y1
  cases x with
  | norm =>
    simp only [Option.some.injEq, Prod.mk.injEq] at hc
    obtain ⟨rfl, rfl⟩ := hc
    obtain ⟨s4, x4⟩ := sim_turn s3 hob2 hg3 y4 (rec' := { rec3 with state := .ready, pending := none }) (st' := 0) (pend' := none) rfl rfl rfl rfl rfl rfl
    exact ⟨_, _, run_endRound none y4, _, g3, rfl, s4, (e12.trans x3).trans x4, .bool true⟩
  | exit id =>
    simp only [Option.some.injEq, Prod.mk.injEq] at hc
    obtain ⟨rfl, rfl⟩ := hc
    obtain ⟨s4, x4⟩ := sim_turn s3 hob2 hg3 y4 (rec' := { rec3 with state := .done, pending := some (.exit id) }) (st' := 2) (pend' := some (some id)) rfl rfl rfl rfl rfl rfl
    exact ⟨_, _, run_endRound (some (.exit id)) y4, _, g3, rfl, s4, (e12.trans x3).trans x4, .bool false⟩
  | ret =>
    simp only [Option.some.injEq, Prod.mk.injEq] at hc
    obtain ⟨rfl, rfl⟩ := hc
    obtain ⟨s4, x4⟩ := sim_turn s3 hob2 hg3 y4 (rec' := { rec3 with state := .done, pending := some .ret }) (st' := 2) (pend' := some none) rfl rfl rfl rfl rfl rfl
    exact ⟨_, _, run_endRound (some .ret) y4, _, g3, rfl, s4, (e12.trans x3).trans x4, .bool false⟩
theorem callA_ok (hm : P.follows .mixedOrders = true) {p : AProg} (hp : TrProg P p) (N : Nat) : ∀ n, CallOk P (callA p N n)
  | 0 => ⟨fun f args h v h' _ hc => by simp [callA] at hc, fun o ver args h v h' hc => by simp [callA] at hc⟩
  | n + 1 => by
    have IH := callA_ok hm hp N n
    have IP := callA_pure p N n
    refine ⟨fun f args h v h' hny hc => ?_, fun o ver args h v h' hc => ?_⟩
    case refine_2 =>
      simp only [callA, ↓reduceIte] at hc
      exact yieldA_ok hm hp IH IP hc
    simp only [callA, if_neg hny] at hc
    split at hc
    case h_2 => cases hc
    rename_i af haf
    obtain ⟨fn, hf, ht⟩ := hp f af haf
    split at hc
    case isFalse => cases hc
    refine ⟨⟨fn, hf, ?_, ht.named⟩, fun g w xs hgc s hl hx => ?_⟩
    · obtain ⟨c, al, hint, hb, -⟩ := ht.body
      rw [hb]; rfl
    · have keep : bodyA p (callA p N n) N h.length af args (h ++ deads af.sites) = some (v, h') → Calls P f xs w fun e w' => ∃ x g', e = .returned x ∧ Sim g' h' w' ∧ Ext g h w g' h' w' ∧ VRel g' w' v x := by
        intro hc
        obtain ⟨s1, e1⟩ := sim_grow s af.sites
        refine (sim_body hm IH IP hf ht hc (e1.code.trans hgc) s1 hl hx).mono ?_
        rintro e w' ⟨x, g', rfl, q1, q2, q3⟩
        exact ⟨x, g', rfl, q1, e1.trans q2, q3⟩
      have alone : V.freeL args = true → (match bodyA p (callA p N n) N 0 af args (deads af.sites) with
          | some (v, h') => match V.shut (fun o => h'[o]?) sealDepth v with | some v' => some (v', h) | none => none
          | none => none) = some (v, h') → Calls P f xs w fun e w' => ∃ x g', e = .returned x ∧ Sim g' h' w' ∧ Ext g h w g' h' w' ∧ VRel g' w' v x := by
        intro hfree hc
        split at hc
        case h_2 => cases hc
        rename_i v0 h0 hb
        split at hc
        case h_2 => cases hc
        rename_i v' hs
        simp only [Option.some.injEq, Prod.mk.injEq] at hc
        obtain ⟨rfl, rfl⟩ := hc
        have s0 := sim_empty s af.sites
        refine (sim_body hm IH IP hf ht hb (g := ⟨fun _ _ => none, g.imm, g.code⟩) hgc s0 hl (fun i c hi => (hx i c hi).free (fun b hb => hb) (freeL_get hfree i c hi))).mono ?_
        rintro e w' ⟨x, g', rfl, q1, q2, q3⟩
        obtain ⟨b1, b2, b3⟩ := sim_back s q1 q2
        obtain ⟨v1, v2⟩ := sim_seal q1 sealDepth v0 v' x hs q3
        exact ⟨x, _, rfl, b1, b2, v1.free b3 v2⟩
      split at hc
      · exact keep hc
      · split at hc
        · rename_i hfree; exact alone hfree hc
        · exact keep hc
      · split at hc
        case isFalse => cases hc
        rename_i hfree
        exact alone hfree hc
      · split at hc
        case h_2 => cases hc
        rename_i args' hsh
        split at hc
        case h_2 => cases hc
        rename_i v0 h0 hb
        split at hc
        case isFalse => cases hc
        rename_i hpl
        simp only [Option.some.injEq, Prod.mk.injEq] at hc
        obtain ⟨rfl, rfl⟩ := hc
        obtain ⟨m1, m2⟩ := mapM_get hsh
        have ss : Sim ⟨fun _ _ => none, (sealG g h).imm, g.code⟩ (deads af.sites) w := by
          have hd : ∀ (o : Nat) (x : Ob), (deads af.sites)[o]? = some x → x.bd.lives = false := fun o x hx => by
            simp only [deads, List.getElem?_replicate] at hx
            split at hx
            · cases hx; rfl
            · cases hx
          refine ⟨fun o x hx hl => (by rw [hd o x hx] at hl; cases hl), fun o o' b h1 => (blk_deads _ _ _ _ h1).elim, fun o b hb => (blk_deads _ _ _ _ hb).elim, fun b hb => ?_, fun o t b hb => by cases hb⟩
          rcases hb with hb | ⟨o, hb⟩
          · exact s.immlt b hb
          · obtain ⟨x, base, hx, hlv, hg⟩ := blk_some hb
            obtain ⟨b', base', hg', hlt, -⟩ := s.obs o x hx hlv
            rw [hg] at hg'
            cases hg'
            exact hlt
        refine (sim_body hm IH IP hf ht hb (g := ⟨fun _ _ => none, (sealG g h).imm, g.code⟩) hgc ss (by omega) (fun i c hi => ?_)).mono ?_
        · obtain ⟨b, hb', hs⟩ := m2 i c hi
          obtain ⟨r1, r2⟩ := sim_seal s sealDepth b c _ hs (hx i b hb')
          exact r1.free (fun b hb => hb) r2
        · rintro e w' ⟨x, g', rfl, q1, q2, q3⟩
          have hsame : ∀ b, b < w.heap.size → w'.heap[b]? = w.heap[b]? := fun b hb => q2.frame b hb (fun o => blk_deads _ _ _ _)
          have hL : Later g w g w' := ⟨rfl, fun _ _ _ h => h, fun _ h => h, fun b hb => hsame b (s.immlt b hb), q2.shape⟩
          have s' : Sim g h w' := ⟨fun o x hx hl => by
              obtain ⟨b, base, h1, h2, h3⟩ := s.obs o x hx hl
              exact ⟨b, base, h1, Nat.lt_of_lt_of_le h2 q2.size, h3.later hL (hsame b h2)⟩,
            s.inj, s.imm, fun b hb => Nat.lt_of_lt_of_le (s.immlt b hb) q2.size, s.loclt⟩
          exact ⟨x, g, rfl, s', ⟨rfl, fun _ _ _ h => h, fun _ h => h, fun _ h => .inl h, q2.size, q2.shape, fun b hb _ => hsame b hb, fun o b hb _ => ⟨o, hb⟩, q2.os, q2.tape, q2.output⟩, q3.plain hpl⟩
theorem sim_start (P : Program) (w : World) : Sim ⟨fun _ _ => none, fun b => b < w.heap.size, codesOf P⟩ [] w :=
  ⟨fun o x hx => by simp at hx, fun o o' b hb => by simp [blk] at hb, fun o b hb => by simp [blk] at hb, fun b hb => hb, fun o t b hb => by cases hb⟩
theorem below_of {g g' : G} {w w' : World} {h' : Heap} (e : Ext g [] w g' h' w') : RowKit.Below w.heap.size w w' :=
  ⟨e.os, e.tape, e.output, e.size, fun k hk => e.frame k hk (fun o => by simp [blk])⟩
theorem callA_from (hm : P.follows .mixedOrders = true) {p : AProg} (hp : TrProg P p) {N n : Nat} {f : FuncId} (hny : f ≠ YLD) {args : List V} {v : V} {h' : Heap} (hc : callA p N n f args [] = some (v, h')) (w : World) (xs : Array Value) (hl : xs.size = args.length)
    (hx : ∀ i c, args[i]? = some c → VRel ⟨fun _ _ => none, fun b => b < w.heap.size, codesOf P⟩ w c (xs.getD i undef)) :
    Calls P f xs w fun e w' => ∃ x g', e = .returned x ∧ VRel g' w' v x ∧ RowKit.Below w.heap.size w w' :=
  (((callA_ok hm hp N n).fn f args [] v h' hny hc).2 _ w xs rfl (sim_start P w) hl hx).mono fun e w' ⟨x, g', h1, h2, h3, h4⟩ => ⟨x, g', h1, h4, below_of h3⟩
theorem law_from (hm : P.follows .mixedOrders = true) {p : AProg} (hp : TrProg P p) {N n : Nat} {f : FuncId} {args : List V} {h' : Heap} (hc : callA p N n f args [] = some (.bool true, h')) (w : World) (xs : Array Value) (hl : xs.size = args.length)
    (hx : ∀ i c, args[i]? = some c → VRel ⟨fun _ _ => none, fun b => b < w.heap.size, codesOf P⟩ w c (xs.getD i undef)) (hny : f ≠ YLD := by decide) :
    Calls P f xs w fun e w' => e = .returned (.bool true) ∧ RowKit.Below w.heap.size w w' :=
  (callA_from hm hp hny hc w xs hl hx).mono fun e w' ⟨x, g', h1, h2, h3⟩ => by cases h2; exact ⟨h1, h3⟩
end Go.Am


set_option linter.unusedVariables false
namespace Go.Am
variable {P : Program}
def makes (P : Program) : Op → Bool
  | .alloc _ | .box .. | .makeSlice .. | .makeMap .. => true
  | .convert src dst _ => match P.underlying src, P.underlying dst with | some .string, some (.slice _) => true | _, _ => false
  | .buildSlice t .. => match P.underlying t with | some (.slice e) => isByte P e | _ => false
  | .call { callee := .builtin .append, .. } => true
  | _ => false
def siteDsts (P : Program) : Code → List Nat
  | .region _ ops _ => ops.toList.filterMap fun o => if makes P o.op then o.dst else none
  | .seq a b => siteDsts P a ++ siteDsts P b
  | .cond _ a b => siteDsts P a ++ siteDsts P b
  | .block _ b | .loop b | .scope b => siteDsts P b
  | .rangeFunc _ _ a b => siteDsts P a ++ siteDsts P b
  | _ => []
def bitIn (m d : Nat) : Bool := Nat.beq ((m >>> d) % 2) 1
def bitAdd (m d : Nat) : Nat := m ||| (1 <<< d)
def bitDel (m d : Nat) : Nat := match bitIn m d with | true => m - (1 <<< d) | false => m
def bitSub (m n : Nat) : Nat := m - (m &&& n)
def bitsOf : Nat → Nat → List Nat
  | 0, _ => []
  | n + 1, m => match Nat.beq m 0 with | true => [] | false => Nat.log2 m :: bitsOf n (m - (1 <<< Nat.log2 m))
def opdBits (m : Nat) : Operand → Nat
  | .tmp t => bitAdd m t
  | _ => m
def operBits (ops : Array Oper) (o : Oper) (m : Nat) : Nat :=
  let m := match o.dst with | some d => bitDel m d | none => m
  let m := o.op.operands.toList.foldl opdBits m
  match o.guard with
  | some (g, _) => match ops[g]? with | some o' => (match o'.dst with | some d => bitAdd m d | none => m) | none => m
  | none => m
def dstBits (m : Nat) (o : Oper) : Nat := match o.dst with | some d => bitAdd m d | none => m
def exitBits (E : List (Nat × Nat)) (id : Nat) : Nat := match E with | [] => 0 | (i, m) :: E => match Nat.beq i id with | true => m | false => exitBits E id
def lives : Nat → List (Nat × Nat) → Nat → Code → LT × Nat
  | _, _, m, .region _ ops _ =>
    let i := ops.toList.foldr (fun o m => operBits ops o m) m
    (.node (bitsOf 10000 (bitSub (ops.toList.foldl dstBits i) m)) .nil .nil, i)
  | R, E, m, .seq a b => let (tb, ib) := lives R E m b; let (ta, ia) := lives R E ib a; (.node [] ta tb, ia)
  | R, E, m, .cond c a b =>
    let (ta, ia) := lives R E m a
    let (tb, ib) := lives R E m b
    let i := opdBits (ia ||| ib) c
    (.node [] (.node (bitsOf 10000 (bitSub i ia)) ta .nil) (.node (bitsOf 10000 (bitSub i ib)) tb .nil), i)
  | R, E, m, .block id b => let (t, i) := lives R ((id, m) :: E) m b; (.node [] t .nil, i)
  | R, E, m, .loop b => let i := (lives R E 0 b).2; let (t, i') := lives R E i b; (.node [] t .nil, i ||| i')
  | R, E, m, .scope b => lives R E m b
  | _, E, _, .exit id => (.nil, exitBits E id)
  | R, _, _, .ret => (.nil, R)
  | R, E, m, .rangeFunc g _ a b =>
    let (tb, ib) := lives 0 [] 0 b
    let (ta, ia) := lives 0 [] ib a
    (.node [] ta tb, opdBits (E.foldl (fun k e => k ||| e.2) (m ||| R) ||| ia) g)
  | _, _, m, _ => (.nil, m)
def resBits (m : Nat) : ResultVar → Nat
  | .tmp t => bitAdd m t
  | .cell a _ => bitAdd m a
def livesF (fn : Func) (c : Code) : LT :=
  let R := fn.results.toList.foldl resBits 0
  (lives R [] R c).1
def freshT (P : Program) (n : Nat) : Code → LT → LT
  | .loop b, lt => .node lt.here (freshT P n b lt.fst) (match siteDsts P b with | [] => .nil | _ => .node [n] .nil .nil)
  | .seq a b, lt => .node lt.here (freshT P n a lt.fst) (freshT P n b lt.snd)
  | .cond _ a b, lt => .node lt.here (.node lt.fst.here (freshT P n a lt.fst.fst) .nil) (.node lt.snd.here (freshT P n b lt.snd.fst) .nil)
  | .block _ b, lt => .node lt.here (freshT P n b lt.fst) .nil
  | .scope b, lt => freshT P n b lt
  | _, lt => lt
def trFf (P : Program) (p : AProg) (mode : FMode) (fid : Nat) (fn : Func) : Option AFunc :=
  match fn.body with
  | none => none
  | some c =>
    match fn.name == "runtime.NumGoroutine", trCode P (pureOf p) (siteDsts P c) fid false 0 (freshT P ((siteDsts P c).length + (rangesOf c).length) c (livesF fn c)) c, fn.results.toList.mapM (trRes P) with
    | false, some b, some rs => some { nargs := fn.params.size + fn.nfree, nt := fn.ntmps, sites := (siteDsts P c).length + (rangesOf c).length, mode := mode, body := b, res := rs }
    | _, _, _ => none
theorem trFf_ok {p : AProg} {mode : FMode} {fid : Nat} {fn : Func} {af : AFunc} (h : trFf P p mode fid fn = some af) : TrFunc P p fid fn af := by
  unfold trFf at h
  split at h
  · cases h
  rename_i c hc
  split at h
  · rename_i b rs h1 h2 h3
    cases h
    exact ⟨h1, ⟨c, _, _, hc, h2⟩, rfl, h3⟩
  · cases h
def trF (P : Program) (p : AProg) (mode : FMode) (fid : Nat) (fn : Func) : Option AFunc :=
  match fn.body with
  | none => none
  | some c =>
    match fn.name == "runtime.NumGoroutine", trCode P (pureOf p) (siteDsts P c) fid false 0 (livesF fn c) c, fn.results.toList.mapM (trRes P) with
    | false, some b, some rs => some { nargs := fn.params.size + fn.nfree, nt := fn.ntmps, sites := (siteDsts P c).length + (rangesOf c).length, mode := mode, body := b, res := rs }
    | _, _, _ => none
theorem trF_ok {p : AProg} {mode : FMode} {fid : Nat} {fn : Func} {af : AFunc} (h : trF P p mode fid fn = some af) : TrFunc P p fid fn af := by
  unfold trF at h
  split at h
  · cases h
  rename_i c hc
  split at h
  · rename_i b rs h1 h2 h3
    cases h
    exact ⟨h1, ⟨c, _, _, hc, h2⟩, rfl, h3⟩
  · cases h
def TrAll (P : Program) (p : AProg) : List (Option AFunc) → Nat → Prop
  | [], _ => True
  | none :: l, k => TrAll P p l (k + 1)
  | some af :: l, k => (∃ fn, P.funcs[k]? = some fn ∧ (trF P p af.mode k fn = some af ∨ trFf P p af.mode k fn = some af)) ∧ TrAll P p l (k + 1)
theorem trAll_get {p : AProg} : ∀ {l : List (Option AFunc)} {k : Nat}, TrAll P p l k → ∀ (f : Nat) (af : AFunc), l[f]? = some (some af) → ∃ fn, P.funcs[k + f]? = some fn ∧ (trF P p af.mode (k + f) fn = some af ∨ trFf P p af.mode (k + f) fn = some af)
  | [], k, h, f, af, hf => by simp at hf
  | none :: l, k, h, f, af, hf => by
    cases f with
    | zero => simp at hf
    | succ f =>
      have := trAll_get (l := l) (k := k + 1) h f af (by simpa using hf)
      rw [show k + 1 + f = k + (f + 1) by omega] at this
      exact this
  | some a :: l, k, h, f, af, hf => by
    cases f with
    | zero => simp at hf; subst hf; exact h.1
    | succ f =>
      have := trAll_get (l := l) (k := k + 1) h.2 f af (by simpa using hf)
      rw [show k + 1 + f = k + (f + 1) by omega] at this
      exact this
theorem trProg_of {p : AProg} (h : TrAll P p p 0) : TrProg P p := fun f af hf => by
  obtain ⟨fn, h1, h2⟩ := trAll_get h f af hf
  rw [Nat.zero_add] at h1 h2
  exact ⟨fn, h1, h2.elim trF_ok trFf_ok⟩
end Go.Am


set_option linter.unusedVariables false
set_option linter.unusedSimpArgs false
namespace Go.Am
def get : List (Nat × V) → Nat → V
  | [], _ => .junk
  | (j, v) :: l, i => if i = j then v else get l i
def ins (i : Nat) (x : V) : List (Nat × V) → List (Nat × V)
  | [] => [(i, x)]
  | (j, v) :: l => if i = j then (i, x) :: l else if i < j then (i, x) :: (j, v) :: l else (j, v) :: ins i x l
def del (i : Nat) : List (Nat × V) → List (Nat × V)
  | [] => []
  | (j, v) :: l => if i = j then del i l else (j, v) :: del i l
def dels (is : List Nat) (l : List (Nat × V)) : List (Nat × V) := match is with | [] => l | i :: is => dels is (del i l)
def fr (n : Nat) (l : List (Nat × V)) : List V := (List.range n).map (get l)
def argsF : Nat → List V → List (Nat × V)
  | _, [] => []
  | i, v :: l => (i, v) :: argsF (i + 1) l
theorem fr_length (n : Nat) (l : List (Nat × V)) : (fr n l).length = n := by simp [fr]
theorem fr_getD {n : Nat} {l : List (Nat × V)} {i : Nat} (h : i < n) : (fr n l).getD i .junk = get l i := by
  simp [fr, List.getD_eq_getElem?_getD, h]
theorem fr_get? {n : Nat} {l : List (Nat × V)} {i : Nat} (h : i < n) : (fr n l)[i]? = some (get l i) := by
  simp [fr, h]
theorem get_ins (i : Nat) (x : V) (j : Nat) : ∀ (l : List (Nat × V)), get (ins i x l) j = if j = i then x else get l j
  | [] => by simp [ins, get]
  | (k, v) :: l => by
    unfold ins
    split
    · rename_i h
      subst h
      simp only [get]
      split <;> rfl
    · split
      · simp only [get]
      · rename_i h1 h2
        simp only [get, get_ins i x j l]
        by_cases e : j = k
        · subst e
          rw [if_pos rfl, if_neg (fun e => h1 e.symm), if_pos rfl]
        · rw [if_neg e, if_neg e]
theorem get_del (i j : Nat) : ∀ (l : List (Nat × V)), get (del i l) j = if j = i then .junk else get l j
  | [] => by simp [del, get]
  | (k, v) :: l => by
    unfold del
    split
    · rename_i h
      subst h
      rw [get_del i j l]
      simp only [get]
      split <;> rfl
    · rename_i h1
      simp only [get, get_del i j l]
      by_cases e : j = k
      · subst e
        rw [if_pos rfl, if_neg (fun e => h1 e.symm), if_pos rfl]
      · rw [if_neg e, if_neg e]
theorem fr_set (n : Nat) (l : List (Nat × V)) (i : Nat) (x : V) : (fr n l).set i x = fr n (ins i x l) := by
  apply List.ext_getElem?
  intro j
  rcases Nat.lt_or_ge j n with h | h
  · rw [fr_get? h, get_ins]
    by_cases e : j = i
    · subst e
      rw [if_pos rfl, List.getElem?_set_self (by rw [fr_length]; exact h)]
    · rw [if_neg e, List.getElem?_set_ne (Ne.symm e), fr_get? h]
  · rw [List.getElem?_eq_none (by rw [List.length_set, fr_length]; exact h), List.getElem?_eq_none (by rw [fr_length]; exact h)]
theorem fr_del (n : Nat) (l : List (Nat × V)) (i : Nat) : (fr n l).set i .junk = fr n (del i l) := by
  rw [fr_set]
  unfold fr
  apply List.map_congr_left
  intro j _
  rw [get_ins, get_del]
theorem fr_clear (n : Nat) : ∀ (is : List Nat) (l : List (Nat × V)), clear is (fr n l) = fr n (dels is l)
  | [], l => rfl
  | i :: is, l => by
    have : clear (i :: is) (fr n l) = clear is ((fr n l).set i .junk) := rfl
    rw [this, fr_del, fr_clear n is]
    rfl
theorem get_argsF : ∀ (l : List V) (k i : Nat), get (argsF k l) i = if i < k then .junk else l.getD (i - k) .junk
  | [], k, i => by simp [argsF, get]
  | v :: l, k, i => by
    simp only [argsF, get, get_argsF l]
    by_cases h : i = k
    · subst h; simp
    · rw [if_neg h]
      by_cases h1 : i < k
      · rw [if_pos (by omega), if_pos h1]
      · rw [if_neg (by omega), if_neg h1, show i - k = (i - (k + 1)) + 1 by omega, List.getD_cons_succ]
theorem fr_args (args : List V) (n : Nat) (h : args.length ≤ n) : args ++ List.replicate (n - args.length) .junk = fr n (argsF 0 args) := by
  apply List.ext_getElem?
  intro i
  rcases Nat.lt_or_ge i n with hi | hi
  · rw [fr_get? hi, get_argsF, if_neg (by omega), Nat.sub_zero, List.getD_eq_getElem?_getD]
    rcases Nat.lt_or_ge i args.length with k | k
    · rw [List.getElem?_append_left k, List.getElem?_eq_getElem k]; rfl
    · rw [List.getElem?_append_right k, List.getElem?_replicate, if_pos (by omega), List.getElem?_eq_none k]; rfl
  · rw [List.getElem?_eq_none (by simp; omega), List.getElem?_eq_none (by rw [fr_length]; exact hi)]
theorem ev_fr {n : Nat} {l : List (Nat × V)} {i : Nat} (h : i < n) : ev (fr n l) (.tmp i) = get l i := fr_getD h
theorem ev_cst (t : List V) (v : V) : ev t (.cst v) = v := rfl
theorem put_none (t : List V) (v : V) : put t none v = t := rfl
theorem put_fr (n : Nat) (l : List (Nat × V)) (i : Nat) (v : V) : put (fr n l) (some i) v = fr n (ins i v l) := fr_set n l i v
structure Env where
  pureF : FuncId → FMode
  call : Caller
  N : Nat
  fb : Nat
def Env.framed (E : Env) : Env := { E with call := frameC E.pureF E.call }
abbrev Post := Ex → List V → Heap → Prop
def wp (E : Env) (c : ACode) (t : List V) (h : Heap) (Q : Post) : Prop :=
  match exec E.pureF E.call E.N E.fb c t h with
  | some (e, t', h') => Q e t' h'
  | none => False
def seqQ (E : Env) (b : ACode) (Q : Post) : Post := fun e t h =>
  match e with
  | .norm => wp E b t h Q
  | e => Q e t h
def blkQ (id : Nat) (Q : Post) : Post := fun e t h =>
  match e with
  | .exit i => if i = id then Q .norm t h else Q (.exit i) t h
  | e => Q e t h
def condP (E : Env) (v : V) (a b : ACode) (t : List V) (h : Heap) (Q : Post) : Prop :=
  match v with
  | .bool x => (x = true → wp E a t h Q) ∧ (x = false → wp E b t h Q)
  | _ => False
abbrev Cont := List V → Heap → Prop
def wpo (E : Env) (ops : List AOper) (t : List V) (h : Heap) (K : Cont) : Prop :=
  match runOps E.call E.fb ops t h with
  | some (t', h') => K t' h'
  | none => False
def opK (E : Env) (dst : Option Nat) (os : List AOper) (t : List V) (K : Cont) (v : V) (h : Heap) : Prop := wpo E os (put t dst v) h K
def wcall (r : Option (V × Heap)) (C : V → Heap → Prop) : Prop :=
  match r with
  | some (v, h) => C v h
  | none => False
def effP (e : Option Eff) (h : Heap) (C : V → Heap → Prop) : Prop :=
  match e with
  | some (.ret v) => C v h
  | some (.set o x v) => C v (h.set o x)
  | none => False
def wop (E : Env) (op : AOp) (t : List V) (h : Heap) (C : V → Heap → Prop) : Prop :=
  wcall (doOp E.call E.fb op (ev t) h) C
def gdP (E : Env) (v : V) (want : Bool) (op : AOp) (dst : Option Nat) (os : List AOper) (t : List V) (h : Heap) (K : Cont) : Prop :=
  match v with
  | .bool x => (x = want → wop E op t h (opK E dst os t K)) ∧ (x = !want → wpo E os (put t dst (.tup [])) h K)
  | .tup [] => wpo E os (put t dst (.tup [])) h K
  | _ => False
theorem wp_clr {E : Env} {l : List Nat} {n : Nat} {t : List (Nat × V)} {h : Heap} {Q : Post} : wp E (.clr l) (fr n t) h Q = Q .norm (fr n (dels l t)) h := by
  rw [← fr_clear]; rfl
theorem wp_seq {E : Env} {a b : ACode} {t : List V} {h : Heap} {Q : Post} : wp E (.seq a b) t h Q = wp E a t h (seqQ E b Q) := by
  unfold wp
  simp only [exec]
  cases exec E.pureF E.call E.N E.fb a t h with
  | none => rfl
  | some r => obtain ⟨e, t', h'⟩ := r; cases e <;> rfl
theorem wp_block {E : Env} {i : Nat} {b : ACode} {t : List V} {h : Heap} {Q : Post} : wp E (.block i b) t h Q = wp E b t h (blkQ i Q) := by
  unfold wp
  simp only [exec]
  cases exec E.pureF E.call E.N E.fb b t h with
  | none => rfl
  | some r =>
    obtain ⟨e, t', h'⟩ := r
    cases e with
    | exit j => by_cases hj : j = i <;> simp [blkQ, hj]
    | _ => rfl
theorem blkQ_norm {i : Nat} {Q : Post} {t : List V} {h : Heap} : blkQ i Q .norm t h = Q .norm t h := rfl
theorem blkQ_ret {i : Nat} {Q : Post} {t : List V} {h : Heap} : blkQ i Q .ret t h = Q .ret t h := rfl
theorem blkQ_exit {i j : Nat} {Q : Post} {t : List V} {h : Heap} : blkQ i Q (.exit j) t h = if j = i then Q .norm t h else Q (.exit j) t h := rfl
theorem wp_cond {E : Env} {c : Opd} {a b : ACode} {t : List V} {h : Heap} {Q : Post} : wp E (.cond c a b) t h Q = condP E (ev t c) a b t h Q := by
  unfold wp condP
  simp only [exec]
  cases ev t c with
  | bool x => cases x <;> simp [wp]
  | _ => rfl
theorem wp_region {E : Env} {ops : List AOper} {t : List V} {h : Heap} {Q : Post} : wp E (.region ops) t h Q = wpo E ops t h (Q .norm) := by
  unfold wp wpo
  simp only [exec]
  cases runOps E.call E.fb ops t h <;> rfl
theorem wpo_cons {E : Env} {dst : Option Nat} {op : AOp} {os : List AOper} {t : List V} {h : Heap} {K : Cont} : wpo E (⟨dst, op, none⟩ :: os) t h K = wop E op t h (opK E dst os t K) := by
  unfold wpo wop
  simp only [runOps, stepOp, wanted]
  cases doOp E.call E.fb op (ev t) h <;> rfl
theorem wpo_guard {E : Env} {dst : Option Nat} {op : AOp} {g : Nat} {w : Bool} {os : List AOper} {t : List V} {h : Heap} {K : Cont} :
    wpo E (⟨dst, op, some (g, w)⟩ :: os) t h K = gdP E (ev t (.tmp g)) w op dst os t h K := by
  unfold wpo gdP
  simp only [runOps, stepOp, wanted, ev]
  cases t.getD g .junk with
  | bool b =>
    cases b <;> cases w <;> simp [wop, wpo, opK] <;> cases doOp E.call E.fb op (ev t) h <;> rfl
  | tup l => cases l <;> rfl
  | _ => rfl
theorem wcall_some {v : V} {h : Heap} {C : V → Heap → Prop} : wcall (some (v, h)) C = C v h := rfl
theorem effP_ret {v : V} {h : Heap} {C : V → Heap → Prop} : effP (some (.ret v)) h C = C v h := rfl
theorem effP_set {o : Nat} {x : Ob} {v : V} {h : Heap} {C : V → Heap → Prop} : effP (some (.set o x v)) h C = C v (h.set o x) := rfl
theorem effP_none {h : Heap} {C : V → Heap → Prop} : effP none h C = False := rfl
theorem effP_ite {p : Prop} [Decidable p] {a b : Option Eff} {h : Heap} {C : V → Heap → Prop} : effP (if p then a else b) h C = ((p → effP a h C) ∧ (¬ p → effP b h C)) := by
  by_cases hp : p <;> simp [hp]
theorem wop_call {E : Env} {f : FuncId} {args : List Opd} {t : List V} {h : Heap} {C : V → Heap → Prop} (hy : f ≠ 1000000007) : wop E (.call f args) t h C = wcall (E.call f (args.map (ev t)) h) C := by
  have hy' : ¬ f = YLD := hy
  simp only [wop, doOp, if_neg hy']
theorem wop_prim {E : Env} {op : AOp} {t : List V} {h : Heap} {C : V → Heap → Prop} (hc : ∀ f args, op ≠ .call f args) (hv : ∀ f args, op ≠ .callv f args) :
    wop E op t h C = effP (prim E.fb (ev t) (fun o => h[o]?) op) h C := by
  unfold wop effP
  have : doOp E.call E.fb op (ev t) h = match prim E.fb (ev t) (fun o => h[o]?) op with | some (.ret v) => some (v, h) | some (.set o x v) => some (v, h.set o x) | none => none := by
    cases op <;> first | rfl | exact absurd rfl (hc _ _) | exact absurd rfl (hv _ _)
  rw [this]
  cases prim E.fb (ev t) (fun o => h[o]?) op with
  | none => rfl
  | some e => cases e <;> rfl
theorem wp_mono {E : Env} {c : ACode} {t : List V} {h : Heap} {Q Q' : Post} (H : wp E c t h Q) (hQ : ∀ e t h, Q e t h → Q' e t h) : wp E c t h Q' := by
  unfold wp at *
  cases he : exec E.pureF E.call E.N E.fb c t h with
  | none => rw [he] at H; exact H
  | some r => rw [he] at H; exact hQ _ _ _ H
def loopQ (i k : Nat) (I : Nat → List V → Heap → Prop) (Q : Post) : Post := fun e t h =>
  match e with
  | .norm => i < k ∧ I (i + 1) t h
  | e => Q e t h
theorem loopQ_norm {i k : Nat} {I : Nat → List V → Heap → Prop} {Q : Post} {t : List V} {h : Heap} : loopQ i k I Q .norm t h = (i < k ∧ I (i + 1) t h) := rfl
theorem loopQ_exit {i k j : Nat} {I : Nat → List V → Heap → Prop} {Q : Post} {t : List V} {h : Heap} : loopQ i k I Q (.exit j) t h = Q (.exit j) t h := rfl
theorem loopQ_ret {i k : Nat} {I : Nat → List V → Heap → Prop} {Q : Post} {t : List V} {h : Heap} : loopQ i k I Q .ret t h = Q .ret t h := rfl
theorem wp_loop {E : Env} {b : ACode} {t : List V} {h : Heap} {Q : Post} (I : Nat → List V → Heap → Prop) (k : Nat) (hk : k < E.N) (h0 : I 0 t h)
    (hs : ∀ i t h, i ≤ k → I i t h → wp E b t h (loopQ i k I Q)) : wp E (.loop [] [] b) t h Q := by
  unfold wp
  simp only [exec]
  have key : ∀ (m i : Nat) (t : List V) (h : Heap), i ≤ k → k - i < m → I i t h →
      match loopN (exec E.pureF E.call E.N E.fb b) (fun t h => (clear [] t, killA E.fb [] h)) m t h with | some (e, t', h') => Q e t' h' | none => False := by
    intro m
    induction m with
    | zero => intro i t h _ hm; omega
    | succ m ih =>
      intro i t h hi hm hI
      have H := hs i t h hi hI
      unfold wp at H
      simp only [loopN, clear, killA, List.foldl]
      cases he : exec E.pureF E.call E.N E.fb b t h with
      | none => rw [he] at H; exact H
      | some r =>
        obtain ⟨e, t', h'⟩ := r
        rw [he] at H
        cases e with
        | norm =>
          obtain ⟨h1, h2⟩ := H
          exact ih (i + 1) t' h' (by omega) (by omega) h2
        | _ => exact H
  exact key E.N 0 t h (Nat.zero_le _) (by omega) h0
def wpd (E : Env) (n : Nat) (ops : List (AOper × List Nat)) (fps : List FpT) (t : List V) (h : Heap) (K : Cont) : Prop :=
  match runDraw E.pureF E.call E.fb n ops fps t h with
  | some (t', h') => K t' h'
  | none => False
theorem wp_draw {E : Env} {ops : List (AOper × List Nat)} {t : List V} {h : Heap} {Q : Post} : wp E (.draw ops) t h Q = wpd E.framed h.length ops [] t h (Q .norm) := by
  unfold wp wpd
  simp only [exec, Env.framed]
  cases runDraw E.pureF (frameC E.pureF E.call) E.fb h.length ops [] t h <;> rfl
def plainD (ops : List (AOper × List Nat)) : Bool := ops.all fun x => x.2.isEmpty
theorem runDraw_plain {pureF : FuncId → FMode} {call : Caller} {fb n : Nat} : ∀ (ops : List (AOper × List Nat)) (fps : List FpT) (t : List V) (h : Heap), plainD ops = true →
    runDraw pureF call fb n ops fps t h = runOps call fb (ops.map (·.1)) t h
  | [], fps, t, h, _ => rfl
  | (o, ps) :: os, fps, t, h, hp => by
    simp only [plainD, List.all_cons, Bool.and_eq_true, List.isEmpty_iff] at hp
    obtain ⟨rfl, hp⟩ := hp
    simp only [runDraw, List.all_nil, ↓reduceIte, List.map_cons, runOps]
    cases stepOp call fb o t h with
    | none => rfl
    | some r => exact runDraw_plain os _ _ _ hp
theorem wp_draw_plain {E : Env} {ops : List (AOper × List Nat)} {t : List V} {h : Heap} {Q : Post} (hp : plainD ops = true) : wp E (.draw ops) t h Q = wpo E.framed (ops.map (·.1)) t h (Q .norm) := by
  rw [wp_draw]
  unfold wpd wpo
  rw [runDraw_plain ops _ _ _ hp]
theorem framed_pureF {E : Env} : E.framed.pureF = E.pureF := rfl
theorem framed_fb {E : Env} : E.framed.fb = E.fb := rfl
theorem framed_N {E : Env} : E.framed.N = E.N := rfl
theorem framed_pure {E : Env} {f : FuncId} {args : List V} {h : Heap} (hf : E.pureF f = .pure) (hy : f ≠ 1000000007) : E.framed.call f args h = E.call f args h := by
  have hy' : ¬ f = YLD := hy
  simp [Env.framed, frameC, hf, hy']
def retQ (res : List ARes) (C : V → Heap → Prop) : Post := fun e t h =>
  match e with
  | .exit _ => False
  | _ => match resA (fun o => h[o]?) t res with | some vs => C (packR vs) h | none => False
theorem retQ_norm {res : List ARes} {C : V → Heap → Prop} {t : List V} {h : Heap} : retQ res C .norm t h = (match resA (fun o => h[o]?) t res with | some vs => C (packR vs) h | none => False) := rfl
theorem retQ_ret {res : List ARes} {C : V → Heap → Prop} {t : List V} {h : Heap} : retQ res C .ret t h = (match resA (fun o => h[o]?) t res with | some vs => C (packR vs) h | none => False) := rfl
theorem body_of_wp {p : AProg} {call : Caller} {N fb : Nat} {fn : AFunc} {args : List V} {h : Heap} {C : V → Heap → Prop} (hl : args.length ≤ fn.nt)
    (H : wp ⟨pureOf p, call, N, fb⟩ fn.body (fr fn.nt (argsF 0 args)) h (retQ fn.res C)) : ∃ v h', bodyA p call N fb fn args h = some (v, h') ∧ C v h' := by
  unfold bodyA
  rw [fr_args args fn.nt hl]
  unfold wp at H
  simp only at H
  split at H
  · rename_i e t' h' he
    rw [he]
    cases e with
    | exit i => exact H.elim
    | norm =>
      simp only [retQ] at H
      split at H
      · rename_i vs hr; exact ⟨_, _, by simp only [hr], H⟩
      · exact H.elim
    | ret =>
      simp only [retQ] at H
      split at H
      · rename_i vs hr; exact ⟨_, _, by simp only [hr], H⟩
      · exact H.elim
  · exact H.elim
theorem call_pure {p : AProg} {N n : Nat} {f : FuncId} {fn : AFunc} {args : List V} {h : Heap} {v : V} (hf : p[f]? = some (some fn)) (hm : fn.mode = .pure) (ha : args.length = fn.nargs) (hl : fn.nargs ≤ fn.nt)
    (hfree : V.freeL args = true)
    (H : wp ⟨pureOf p, callA p N n, N, 0⟩ fn.body (fr fn.nt (argsF 0 args)) (deads fn.sites) (retQ fn.res fun x h' => V.shut (fun o => h'[o]?) sealDepth x = some v)) (hy : f ≠ YLD := by decide) :
    callA p N (n + 1) f args h = some (v, h) := by
  obtain ⟨x, h', hb, hs⟩ := body_of_wp (by omega) H
  unfold callA
  rw [if_neg hy]
  simp only [hf, ha, ↓reduceIte, hm, hfree, hb, hs]
def selV (y : Bool) (v : V) : V := match y with | true => v | false => .tup []
def impB (y : Bool) (P : Prop) : Prop := y = true → P
def valOf (r : Option (V × Heap)) : V := match r with | some (v, _) => v | none => .junk
def retH (r : Option (V × Heap)) (h : Heap) : Prop := match r with | some (_, h') => h' = h | none => False
def stays (pureF : FuncId → FMode) : AOp → Bool
  | .allocz .. | .box .. | .store .. | .s2b .. | .mkslice .. | .append .. | .copy .. | .callv .. | .clearS .. | .bnew .. => false
  | .call f _ => match pureF f with | .pure => true | .look => true | _ => false
  | _ => true
def wantB (x want : Bool) : Bool := match want with | true => x | false => !x
def sxo (E : Env) : List AOper → List V → Heap → Cont → Prop
  | [], t, h, K => K t h
  | o :: os, t, h, K =>
    match o.guard with
    | none => wcall (doOp E.call E.fb o.op (ev t) h) fun v h' => sxo E os (put t o.dst v) h' K
    | some (g, want) =>
      match ev t (.tmp g) with
      | .bool x =>
        match stays E.pureF o.op with
        | true => impB (wantB x want) (retH (doOp E.call E.fb o.op (ev t) h) h) ∧ sxo E os (put t o.dst (selV (wantB x want) (valOf (doOp E.call E.fb o.op (ev t) h)))) h K
        | false => (wantB x want = true → wcall (doOp E.call E.fb o.op (ev t) h) fun v h' => sxo E os (put t o.dst v) h' K) ∧ (wantB x want = false → sxo E os (put t o.dst (.tup [])) h K)
      | .tup [] => sxo E os (put t o.dst (.tup [])) h K
      | _ => False
def sxK (E : Env) (dst : Option Nat) (os : List AOper) (t : List V) (K : Cont) (v : V) (h : Heap) : Prop := sxo E os (put t dst v) h K
def gdS (E : Env) (v : V) (want st : Bool) (op : AOp) (dst : Option Nat) (os : List AOper) (t : List V) (h : Heap) (K : Cont) : Prop :=
  match v with
  | .bool x =>
    match st with
    | true => impB (wantB x want) (retH (doOp E.call E.fb op (ev t) h) h) ∧ sxo E os (put t dst (selV (wantB x want) (valOf (doOp E.call E.fb op (ev t) h)))) h K
    | false => (wantB x want = true → wcall (doOp E.call E.fb op (ev t) h) (sxK E dst os t K)) ∧ (wantB x want = false → sxo E os (put t dst (.tup [])) h K)
  | .tup [] => sxo E os (put t dst (.tup [])) h K
  | _ => False
theorem sxo_wpo {E : Env} : ∀ {ops : List AOper} {t : List V} {h : Heap} {K : Cont}, sxo E ops t h K → wpo E ops t h K
  | [], t, h, K, H => H
  | ⟨dst, op, none⟩ :: os, t, h, K, H => by
    rw [wpo_cons]
    simp only [sxo] at H
    unfold wop
    cases hd : doOp E.call E.fb op (ev t) h with
    | none => rw [hd] at H; exact H
    | some r => rw [hd] at H; exact sxo_wpo H
  | ⟨dst, op, some (g, want)⟩ :: os, t, h, K, H => by
    rw [wpo_guard]
    simp only [sxo] at H
    unfold gdP
    split at H
    · rename_i x hx
      split at H
      · obtain ⟨h1, h2⟩ := H
        refine ⟨fun e => ?_, fun e => ?_⟩
        · subst e
          have hw : wantB x x = true := by cases x <;> rfl
          rw [hw] at h1 h2
          have h1 := h1 rfl
          unfold wop
          cases hd : doOp E.call E.fb op (ev t) h with
          | none => rw [hd] at h1; exact h1
          | some r =>
            obtain ⟨v, h'⟩ := r
            rw [hd] at h1 h2
            simp only [retH] at h1
            subst h1
            exact sxo_wpo h2
        · subst e
          have hw : wantB (!want) want = false := by cases want <;> rfl
          rw [hw] at h2
          exact sxo_wpo h2
      · obtain ⟨h1, h2⟩ := H
        refine ⟨fun e => ?_, fun e => ?_⟩
        · subst e
          have h1 := h1 (by cases x <;> rfl)
          unfold wop
          cases hd : doOp E.call E.fb op (ev t) h with
          | none => rw [hd] at h1; exact h1
          | some r => rw [hd] at h1; exact sxo_wpo h1
        · subst e
          exact sxo_wpo (h2 (by cases want <;> rfl))
    · exact sxo_wpo H
    · exact H.elim
def sx (E : Env) : ACode → List V → Heap → Post → Prop
  | .seq a b, t, h, Q => sx E a t h fun e t h => match e with | .norm => sx E b t h Q | e => Q e t h
  | .cond c a b, t, h, Q => match ev t c with | .bool x => (x = true → sx E a t h Q) ∧ (x = false → sx E b t h Q) | _ => False
  | .block i b, t, h, Q => sx E b t h (blkQ i Q)
  | .region ops, t, h, Q => sxo E ops t h (Q .norm)
  | .draw ops, t, h, Q => match plainD ops with | true => sxo E.framed (ops.map (·.1)) t h (Q .norm) | false => wpd E.framed h.length ops [] t h (Q .norm)
  | .fresh n c, t, h, Q => sx { E with fb := h.length } c t (h ++ deads n) Q
  | c, t, h, Q => wp E c t h Q
def sqQ (E : Env) (b : ACode) (Q : Post) : Post := fun e t h => match e with | .norm => sx E b t h Q | e => Q e t h
def cdP (E : Env) (v : V) (a b : ACode) (t : List V) (h : Heap) (Q : Post) : Prop :=
  match v with
  | .bool x => (x = true → sx E a t h Q) ∧ (x = false → sx E b t h Q)
  | _ => False
theorem sx_wp {E : Env} : ∀ {c : ACode} {t : List V} {h : Heap} {Q : Post}, sx E c t h Q → wp E c t h Q
  | .seq a b, t, h, Q, H => by
    rw [wp_seq]
    refine wp_mono (sx_wp (c := a) H) fun e t h H => ?_
    cases e with
    | norm => exact sx_wp (c := b) H
    | exit i => exact H
    | ret => exact H
  | .cond c a b, t, h, Q, H => by
    rw [wp_cond]
    simp only [sx] at H
    unfold condP
    split at H
    · exact ⟨fun e => sx_wp (H.1 e), fun e => sx_wp (H.2 e)⟩
    · exact H.elim
  | .block i b, t, h, Q, H => by rw [wp_block]; exact sx_wp (c := b) H
  | .region ops, t, h, Q, H => by rw [wp_region]; exact sxo_wpo H
  | .draw ops, t, h, Q, H => by
    simp only [sx] at H
    split at H
    · rename_i hp; rw [wp_draw_plain hp]; exact sxo_wpo H
    · rw [wp_draw]; exact H
  | .skip, t, h, Q, H => H
  | .loop _ _ _, t, h, Q, H => H
  | .exit _, t, h, Q, H => H
  | .ret, t, h, Q, H => H
  | .clr _, t, h, Q, H => H
  | .rangeF _ _ _ _ _ _ _, t, h, Q, H => H
  | .fresh n c, t, h, Q, H => sx_wp (E := { E with fb := h.length }) (c := c) (t := t) (h := h ++ deads n) (Q := Q) H
theorem sx_fresh {E : Env} {n : Nat} {c : ACode} {t : List V} {h : Heap} {Q : Post} : sx E (.fresh n c) t h Q = sx { E with fb := h.length } c t (h ++ deads n) Q := rfl
theorem sx_seq {E : Env} {a b : ACode} {t : List V} {h : Heap} {Q : Post} : sx E (.seq a b) t h Q = sx E a t h (sqQ E b Q) := rfl
theorem sqQ_norm {E : Env} {b : ACode} {Q : Post} {t : List V} {h : Heap} : sqQ E b Q .norm t h = sx E b t h Q := rfl
theorem sqQ_exit {E : Env} {b : ACode} {Q : Post} {i : Nat} {t : List V} {h : Heap} : sqQ E b Q (.exit i) t h = Q (.exit i) t h := rfl
theorem sqQ_ret {E : Env} {b : ACode} {Q : Post} {t : List V} {h : Heap} : sqQ E b Q .ret t h = Q .ret t h := rfl
theorem sx_cond {E : Env} {c : Opd} {a b : ACode} {t : List V} {h : Heap} {Q : Post} : sx E (.cond c a b) t h Q = cdP E (ev t c) a b t h Q := rfl
theorem cdP_true {E : Env} {a b : ACode} {t : List V} {h : Heap} {Q : Post} : cdP E (.bool true) a b t h Q = sx E a t h Q := by simp [cdP]
theorem cdP_false {E : Env} {a b : ACode} {t : List V} {h : Heap} {Q : Post} : cdP E (.bool false) a b t h Q = sx E b t h Q := by simp [cdP]
theorem cdP_bool {E : Env} {x : Bool} {a b : ACode} {t : List V} {h : Heap} {Q : Post} : cdP E (.bool x) a b t h Q = ((x = true → sx E a t h Q) ∧ (x = false → sx E b t h Q)) := rfl
theorem sx_block {E : Env} {i : Nat} {b : ACode} {t : List V} {h : Heap} {Q : Post} : sx E (.block i b) t h Q = sx E b t h (blkQ i Q) := rfl
theorem sx_region {E : Env} {ops : List AOper} {t : List V} {h : Heap} {Q : Post} : sx E (.region ops) t h Q = sxo E ops t h (Q .norm) := rfl
theorem sx_draw {E : Env} {ops : List (AOper × List Nat)} {t : List V} {h : Heap} {Q : Post} (hp : plainD ops = true) : sx E (.draw ops) t h Q = sxo E.framed (ops.map (·.1)) t h (Q .norm) := by simp only [sx, hp]
theorem sx_skip {E : Env} {t : List V} {h : Heap} {Q : Post} : sx E .skip t h Q = Q .norm t h := rfl
theorem sx_ret {E : Env} {t : List V} {h : Heap} {Q : Post} : sx E .ret t h Q = Q .ret t h := rfl
theorem sx_exit {E : Env} {i : Nat} {t : List V} {h : Heap} {Q : Post} : sx E (.exit i) t h Q = Q (.exit i) t h := rfl
theorem sx_clr {E : Env} {l : List Nat} {n : Nat} {t : List (Nat × V)} {h : Heap} {Q : Post} : sx E (.clr l) (fr n t) h Q = Q .norm (fr n (dels l t)) h := wp_clr
theorem sxo_nil {E : Env} {t : List V} {h : Heap} {K : Cont} : sxo E [] t h K = K t h := rfl
theorem sxo_cons {E : Env} {dst : Option Nat} {op : AOp} {os : List AOper} {t : List V} {h : Heap} {K : Cont} : sxo E (⟨dst, op, none⟩ :: os) t h K = wop E op t h (sxK E dst os t K) := rfl
theorem sxo_guard {E : Env} {dst : Option Nat} {op : AOp} {g : Nat} {w : Bool} {os : List AOper} {t : List V} {h : Heap} {K : Cont} :
    sxo E (⟨dst, op, some (g, w)⟩ :: os) t h K = gdS E (ev t (.tmp g)) w (stays E.pureF op) op dst os t h K := by
  simp only [sxo, gdS]
  rfl
theorem gdS_bool {E : Env} {x w : Bool} {op : AOp} {dst : Option Nat} {os : List AOper} {t : List V} {h : Heap} {K : Cont} :
    gdS E (.bool x) w true op dst os t h K = (impB (wantB x w) (retH (doOp E.call E.fb op (ev t) h) h) ∧ sxo E os (put t dst (selV (wantB x w) (valOf (doOp E.call E.fb op (ev t) h)))) h K) := rfl
theorem gdS_eff {E : Env} {x w : Bool} {op : AOp} {dst : Option Nat} {os : List AOper} {t : List V} {h : Heap} {K : Cont} :
    gdS E (.bool x) w false op dst os t h K = ((wantB x w = true → wop E op t h (sxK E dst os t K)) ∧ (wantB x w = false → sxo E os (put t dst (.tup [])) h K)) := rfl
theorem gdS_tup {E : Env} {w st : Bool} {op : AOp} {dst : Option Nat} {os : List AOper} {t : List V} {h : Heap} {K : Cont} : gdS E (.tup []) w st op dst os t h K = sxo E os (put t dst (.tup [])) h K := rfl
theorem gdS_sel {E : Env} {x y w : Bool} {op : AOp} {dst : Option Nat} {os : List AOper} {t : List V} {h : Heap} {K : Cont} :
    gdS E (selV y (.bool x)) w true op dst os t h K = (impB y (impB (wantB x w) (retH (doOp E.call E.fb op (ev t) h) h)) ∧ sxo E os (put t dst (selV y (selV (wantB x w) (valOf (doOp E.call E.fb op (ev t) h))))) h K) := by
  cases y
  · simp [gdS, selV, impB]
  · simp only [selV, gdS, impB, true_implies]
theorem gdS_seleff {E : Env} {x y w : Bool} {op : AOp} {dst : Option Nat} {os : List AOper} {t : List V} {h : Heap} {K : Cont} :
    gdS E (selV y (.bool x)) w false op dst os t h K = ((y = true → gdS E (.bool x) w false op dst os t h K) ∧ (y = false → sxo E os (put t dst (.tup [])) h K)) := by
  cases y
  · simp [gdS, selV]
  · simp [gdS, selV]
theorem sxK_def {E : Env} {dst : Option Nat} {os : List AOper} {t : List V} {K : Cont} {v : V} {h : Heap} : sxK E dst os t K v h = sxo E os (put t dst v) h K := rfl
theorem wantB_true {x : Bool} : wantB x true = x := rfl
theorem wantB_false {x : Bool} : wantB x false = !x := rfl
theorem selV_true {v : V} : selV true v = v := rfl
theorem selV_false {v : V} : selV false v = .tup [] := rfl
theorem selV_and {x y : Bool} {v : V} : selV (x && y) v = selV x (selV y v) := by cases x <;> cases y <;> rfl
theorem impB_true {P : Prop} : impB true P = P := by simp [impB]
theorem impB_false {P : Prop} : impB false P = True := by simp [impB]
theorem impB_and {x y : Bool} {P : Prop} : impB (x && y) P = impB x (impB y P) := by cases x <;> cases y <;> simp [impB]
theorem impB_triv {x : Bool} : impB x True = True := by simp [impB]
theorem selV_congr {x : Bool} {v v' : V} (hv : x = true → v = v') : selV x v = selV x v' := by
  cases x with
  | true => exact hv rfl
  | false => rfl
theorem impB_congr {x : Bool} {P P' : Prop} (hv : x = true → P = P') : impB x P = impB x P' := by
  cases x with
  | true => simp only [impB, hv rfl]
  | false => simp [impB]
theorem selV_wt {x : Bool} {v : V} : selV (wantB x true) v = selV x v := rfl
theorem selV_wf {x : Bool} {v : V} : selV (wantB x false) v = selV (!x) v := rfl
theorem selV_nor {x y : Bool} {v : V} : selV (!(x || y)) v = selV (!x) (selV (!y) v) := by cases x <;> cases y <;> rfl
theorem impB_wt {x : Bool} {v : Prop} : impB (wantB x true) v = impB x v := rfl
theorem impB_wf {x : Bool} {v : Prop} : impB (wantB x false) v = impB (!x) v := rfl
theorem impB_nor {x y : Bool} {v : Prop} : impB (!(x || y)) v = impB (!x) (impB (!y) v) := by cases x <;> cases y <;> simp [impB]
theorem selV_nt {v : V} : selV (!true) v = .tup [] := rfl
theorem selV_nf {v : V} : selV (!false) v = v := rfl
theorem impB_nt {v : Prop} : impB (!true) v = True := by simp [impB]
theorem impB_nf {v : Prop} : impB (!false) v = v := by simp [impB]
theorem valOf_some {v : V} {h : Heap} : valOf (some (v, h)) = v := rfl
theorem retH_some {v : V} {h h' : Heap} : retH (some (v, h')) h = (h' = h) := rfl
def pickO (c a b : V) : Option Eff := match c with | .bool x => some (.ret (match x with | true => a | false => b)) | _ => none
def pickAnd (x : Bool) (e : Option Eff) : Option Eff := match x with | true => e | false => some (.ret (.bool false))
def pickOr (x : Bool) (e : Option Eff) : Option Eff := match x with | true => some (.ret (.bool true)) | false => e
theorem prim_pick {fb : Nat} {ρ : Opd → V} {get : Nat → Option Ob} {c a b : Opd} : prim fb ρ get (.pick c a b) = pickO (ρ c) (ρ a) (ρ b) := rfl
theorem pickO_true {a b : V} : pickO (.bool true) a b = some (.ret a) := rfl
theorem pickO_false {a b : V} : pickO (.bool false) a b = some (.ret b) := rfl
theorem pickO_and {x y : Bool} : pickO (.bool x) (selV x (.bool y)) (.bool false) = some (.ret (.bool (x && y))) := by cases x <;> rfl
theorem pickO_or {x y : Bool} : pickO (.bool x) (.bool true) (selV (!x) (.bool y)) = some (.ret (.bool (x || y))) := by cases x <;> rfl
theorem pickO_orn {x y : Bool} : pickO (.bool (!x)) (.bool true) (selV x (.bool y)) = some (.ret (.bool (!x || y))) := by cases x <;> rfl
theorem pickO_bb {x y z : Bool} : pickO (.bool x) (.bool y) (.bool z) = some (.ret (.bool (bif x then y else z))) := by cases x <;> rfl
theorem pickO_andr {x r : Bool} {w : V} : pickO (.bool (x && r)) (selV x w) (.bool false) = pickAnd x (pickO (.bool r) w (.bool false)) := by cases x <;> rfl
theorem pickO_orr {x r : Bool} {w : V} : pickO (.bool (x || r)) (.bool true) (selV (!x) w) = pickOr x (pickO (.bool r) (.bool true) w) := by cases x <;> rfl
theorem pickO_orrn {x r : Bool} {w : V} : pickO (.bool (!x || r)) (.bool true) (selV x w) = pickOr (!x) (pickO (.bool r) (.bool true) w) := by cases x <;> rfl
theorem pickAnd_bool {x y : Bool} : pickAnd x (some (.ret (.bool y))) = some (.ret (.bool (x && y))) := by cases x <;> rfl
theorem pickOr_bool {x y : Bool} : pickOr x (some (.ret (.bool y))) = some (.ret (.bool (x || y))) := by cases x <;> rfl
theorem selV_nn {x : Bool} {v : V} : selV (!!x) v = selV x v := by cases x <;> rfl
theorem impB_nn {x : Bool} {v : Prop} : impB (!!x) v = impB x v := by cases x <;> simp [impB]
end Go.Am


set_option linter.unusedVariables false
set_option linter.unusedSimpArgs false
namespace Go.Am
theorem freeL_cons (v : V) (l : List V) : V.freeL (v :: l) = (v.free && V.freeL l) := by rfl
theorem freeL_nil : V.freeL [] = true := by rfl
theorem free_int (k : IntKind) (n : Int) : (V.int k n).free = true := rfl
theorem free_bool (n : Bool) : (V.bool n).free = true := rfl
theorem free_str (n : List UInt8) : (V.str n).free = true := rfl
theorem free_nils : V.nils.free = true := rfl
theorem free_agg (l : List V) : (V.agg l).free = V.freeL l := rfl
theorem free_tup (l : List V) : (V.tup l).free = V.freeL l := rfl
theorem free_sl (l : List V) (s : Nat) (c : Option Nat) : (V.sl l s c).free = V.freeL l := rfl
theorem freeL_append (a b : List V) : V.freeL (a ++ b) = (V.freeL a && V.freeL b) := by
  induction a with
  | nil => simp [freeL_nil]
  | cons x a ih => simp [freeL_cons, ih, Bool.and_assoc]
theorem shut_plain {get : Nat → Option Ob} {d : Nat} {v : V} (h : v.free = true) : V.shut get (d + 1) v = some v := by
  simp [V.shut, h]
theorem shut_int {get : Nat → Option Ob} {d : Nat} {k : IntKind} {n : Int} : V.shut get (d + 1) (.int k n) = some (.int k n) := shut_plain rfl
theorem shut_bool {get : Nat → Option Ob} {d : Nat} {b : Bool} : V.shut get (d + 1) (.bool b) = some (.bool b) := shut_plain rfl
theorem opt_bind_some {α β : Type} (a : α) (f : α → Option β) : Option.bind (some a) f = f a := rfl
theorem opt_bind_none {α β : Type} (f : α → Option β) : Option.bind none f = none := rfl
theorem opt_map_some {α β : Type} (a : α) (f : α → β) : Option.map f (some a) = some (f a) := rfl
theorem opt_map_none {α β : Type} (f : α → β) : Option.map f none = none := rfl
theorem wrap64_eq (n : Int) : IntKind.i64.wrap n = if n % 18446744073709551616 ≥ 9223372036854775808 then n % 18446744073709551616 - 18446744073709551616 else n % 18446744073709551616 := by
  unfold IntKind.wrap
  simp [IntKind.bits, IntKind.signed]
theorem wrap64 {n : Int} (h1 : -9223372036854775808 ≤ n) (h2 : n ≤ 9223372036854775807) : IntKind.i64.wrap n = n := by
  rw [wrap64_eq]
  split <;> omega
def sxL (E : Env) : Nat → ACode → List V → Heap → Post → Prop
  | 0, _, _, _, _ => False
  | m + 1, b, t, h, Q => sx E b t h fun e t h => match e with | .norm => sxL E m b t h Q | e => Q e t h
def lpQ (E : Env) (m : Nat) (b : ACode) (Q : Post) : Post := fun e t h => match e with | .norm => sxL E m b t h Q | e => Q e t h
theorem sxL_succ {E : Env} {m : Nat} {b : ACode} {t : List V} {h : Heap} {Q : Post} : sxL E (m + 1) b t h Q = sx E b t h (lpQ E m b Q) := rfl
theorem lpQ_norm {E : Env} {m : Nat} {b : ACode} {Q : Post} {t : List V} {h : Heap} : lpQ E m b Q .norm t h = sxL E m b t h Q := rfl
theorem lpQ_exit {E : Env} {m i : Nat} {b : ACode} {Q : Post} {t : List V} {h : Heap} : lpQ E m b Q (.exit i) t h = Q (.exit i) t h := rfl
theorem lpQ_ret {E : Env} {m : Nat} {b : ACode} {Q : Post} {t : List V} {h : Heap} : lpQ E m b Q .ret t h = Q .ret t h := rfl
theorem sx_unroll {E : Env} (m : Nat) {b : ACode} {t : List V} {h : Heap} {Q : Post} (hm : m ≤ E.N) (H : sxL E m b t h Q) : sx E (.loop [] [] b) t h Q := by
  show wp E (.loop [] [] b) t h Q
  unfold wp
  simp only [exec]
  have key : ∀ (m n : Nat) (t : List V) (h : Heap), m ≤ n → sxL E m b t h Q →
      match loopN (exec E.pureF E.call E.N E.fb b) (fun t h => (clear [] t, killA E.fb [] h)) n t h with | some (e, t', h') => Q e t' h' | none => False := by
    intro m
    induction m with
    | zero => intro n t h _ H; exact H.elim
    | succ m ih =>
      intro n t h hmn H
      obtain ⟨n, rfl⟩ : ∃ k, n = k + 1 := ⟨n - 1, by omega⟩
      have H' := sx_wp H
      unfold wp at H'
      simp only [loopN, clear, killA, List.foldl]
      cases he : exec E.pureF E.call E.N E.fb b t h with
      | none => rw [he] at H'; exact H'
      | some r =>
        obtain ⟨e, t', h'⟩ := r
        rw [he] at H'
        cases e with
        | norm => exact ih n t' h' (by omega) H'
        | _ => exact H'
  exact key m E.N t h hm H
theorem sx_loop {E : Env} {b : ACode} {t : List V} {h : Heap} {Q : Post} (I : Nat → List V → Heap → Prop) (k : Nat) (hk : k < E.N) (h0 : I 0 t h)
    (hs : ∀ i t h, i ≤ k → I i t h → sx E b t h (loopQ i k I Q)) : sx E (.loop [] [] b) t h Q :=
  wp_loop I k hk h0 fun i t h hi hI => sx_wp (hs i t h hi hI)
end Go.Am


set_option linter.unusedVariables false
set_option linter.unusedSimpArgs false
namespace Go.Am
def Sub (c c' : Caller) : Prop := ∀ f args h r, c f args h = some r → c' f args h = some r
theorem doOp_mono {c c' : Caller} (hc : Sub c c') {fb : Nat} {op : AOp} {ρ : Opd → V} {h : Heap} {r : V × Heap} (H : doOp c fb op ρ h = some r) : doOp c' fb op ρ h = some r := by
  unfold doOp at *
  split at H
  · split at H
    · cases H
    · rename_i hny
      simp only [if_neg hny]
      exact hc _ _ _ _ H
  · split at H
    · split at H
      · cases H
      · rename_i hny
        simp only [if_neg hny]
        exact hc _ _ _ _ H
    · exact hc _ _ _ _ H
    · cases H
  · exact H
theorem stepOp_mono {c c' : Caller} (hc : Sub c c') {fb : Nat} {o : AOper} {t : List V} {h : Heap} {r : List V × Heap} (H : stepOp c fb o t h = some r) : stepOp c' fb o t h = some r := by
  unfold stepOp at *
  split at H
  · cases H
  · exact H
  · split at H
    · rename_i v h' hd
      rw [doOp_mono hc hd]
      exact H
    · cases H
theorem runOps_mono {c c' : Caller} (hc : Sub c c') {fb : Nat} : ∀ {ops : List AOper} {t : List V} {h : Heap} {r : List V × Heap}, runOps c fb ops t h = some r → runOps c' fb ops t h = some r
  | [], t, h, r, H => H
  | o :: os, t, h, r, H => by
    simp only [runOps] at *
    split at H
    · rename_i t' h' hs
      rw [stepOp_mono hc hs]
      exact runOps_mono hc H
    · cases H
theorem runDraw_mono {pureF : FuncId → FMode} {c c' : Caller} (hc : Sub c c') {fb n : Nat} : ∀ {ops : List (AOper × List Nat)} {fps : List FpT} {t : List V} {h : Heap} {r : List V × Heap},
    runDraw pureF c fb n ops fps t h = some r → runDraw pureF c' fb n ops fps t h = some r
  | [], fps, t, h, r, H => H
  | (o, ps) :: os, fps, t, h, r, H => by
    simp only [runDraw] at *
    split at H
    · rename_i hp
      rw [if_pos hp]
      split at H
      · rename_i t' h' hs
        rw [stepOp_mono hc hs]
        exact runDraw_mono hc H
      · cases H
    · cases H
theorem frameC_mono {pureF : FuncId → FMode} {c c' : Caller} (hc : Sub c c') : Sub (frameC pureF c) (frameC pureF c') := by
  intro f args h r H
  unfold frameC at *
  by_cases hny : f = YLD
  · rw [if_pos hny] at H ⊢
    split at H
    · rename_i v k e
      rw [hc _ _ _ _ e]
      exact H
    · cases H
  rw [if_neg hny] at H ⊢
  split at H
  · exact hc _ _ _ _ H
  · split at H
    · rename_i hp; rw [if_pos hp]; exact hc _ _ _ _ H
    · cases H
  · split at H
    · rename_i v h1 e1 e2
      rw [e1, hc _ _ _ _ e2]
      exact H
    · cases H
theorem loopN_mono {f f' : List V → Heap → Option (Ex × List V × Heap)} (hf : ∀ t h r, f t h = some r → f' t h = some r) {pre : List V → Heap → List V × Heap} : ∀ {n n' : Nat} {t : List V} {h : Heap} {r : Ex × List V × Heap}, n ≤ n' →
    loopN f pre n t h = some r → loopN f' pre n' t h = some r
  | 0, n', t, h, r, hn, H => by simp [loopN] at H
  | n + 1, n', t, h, r, hn, H => by
    obtain ⟨m, rfl⟩ : ∃ m, n' = m + 1 := ⟨n' - 1, by omega⟩
    simp only [loopN] at *
    split at H
    · rename_i t' h' hs
      rw [hf _ _ _ hs]
      exact loopN_mono hf (by omega) H
    · rename_i hne
      rw [hf _ _ _ H]
      obtain ⟨e, t', h'⟩ := r
      cases e with
      | norm => exact absurd H (hne _ _)
      | _ => rfl
theorem exec_mono {pureF : FuncId → FMode} {c c' : Caller} (hc : Sub c c') {N N' : Nat} (hN : N ≤ N') {fb : Nat} : ∀ {code : ACode} {t : List V} {h : Heap} {r : Ex × List V × Heap}, exec pureF c N fb code t h = some r → exec pureF c' N' fb code t h = some r
  | .skip, t, h, r, H => H
  | .region ops, t, h, r, H => by
    simp only [exec] at *
    split at H
    · rename_i hs; rw [runOps_mono hc hs]; exact H
    · cases H
  | .draw ops, t, h, r, H => by
    simp only [exec] at *
    split at H
    · rename_i hs; rw [runDraw_mono (frameC_mono hc) hs]; exact H
    · cases H
  | .seq a b, t, h, r, H => by
    simp only [exec] at *
    split at H
    · rename_i hs; rw [exec_mono hc hN hs]; exact exec_mono hc hN H
    · rename_i hne
      rw [exec_mono hc hN H]
      obtain ⟨e, t', h'⟩ := r
      cases e with
      | norm => exact absurd H (hne _ _)
      | _ => rfl
  | .cond cd a b, t, h, r, H => by
    simp only [exec] at *
    split at H
    · exact exec_mono hc hN H
    · exact exec_mono hc hN H
    · cases H
  | .block id b, t, h, r, H => by
    simp only [exec] at *
    split at H
    · rename_i hs; rw [exec_mono hc hN hs]; exact H
    · rename_i hne
      rw [exec_mono hc hN H]
      obtain ⟨e, t', h'⟩ := r
      cases e with
      | exit i => exact absurd H (hne _ _ _)
      | _ => rfl
  | .loop clr kill b, t, h, r, H => by
    simp only [exec] at *
    exact loopN_mono (fun t h r => exec_mono hc hN) hN H
  | .exit id, t, h, r, H => H
  | .ret, t, h, r, H => H
  | .clr l, t, h, r, H => H
  | .fresh n b, t, h, r, H => by
    simp only [exec] at *
    exact exec_mono hc hN H
  | .rangeF f ps a b fid k site, t, h, r, H => by
    simp only [exec] at *
    split at H
    · split at H
      · rename_i hx _ _ _ _ he
        split at H
        · cases H
        · rename_i hny
          simp only [he, if_neg hny]
          split at H
          · rename_i e
            rw [hc _ _ _ _ e]
            exact H
          · cases H
      · cases H
    · cases H
theorem yieldA_mono {p : AProg} {c c' : Caller} (hc : Sub c c') {N N' : Nat} (hN : N ≤ N') {args : List V} {h : Heap} {r : V × Heap} (H : yieldA p c N args h = some r) : yieldA p c' N' args h = some r := by
  unfold yieldA at *
  split at H
  case h_2 => cases H
  split at H
  case h_2 => cases H
  split at H
  case isFalse => cases H
  rename_i hv
  try rw [if_pos hv]
  split at H
  case h_2 => cases H
  rename_i hp
  split at H
  case h_2 => cases H
  rename_i hr
  try rw [hr]
  split at H
  case isFalse => cases H
  rename_i hl
  try rw [if_pos hl]
  split at H
  case h_2 => cases H
  rename_i he
  rw [exec_mono hc hN he]
  split at H
  case h_2 => cases H
  rename_i ho
  split at H
  case isFalse => cases H
  rename_i hv2
  simp only [ho, hv2, ↓reduceIte] at H ⊢
  split at H
  case h_2 => cases H
  rename_i he2
  rw [exec_mono hc hN he2]
  exact H
theorem bodyA_mono {p : AProg} {c c' : Caller} (hc : Sub c c') {N N' : Nat} (hN : N ≤ N') {fb : Nat} {fn : AFunc} {args : List V} {h : Heap} {r : V × Heap} (H : bodyA p c N fb fn args h = some r) : bodyA p c' N' fb fn args h = some r := by
  unfold bodyA at *
  split at H
  · rename_i he; rw [exec_mono hc hN he]; exact H
  · rename_i he; rw [exec_mono hc hN he]; exact H
  · cases H
theorem callA_mono (p : AProg) : ∀ {n n' : Nat} {N N' : Nat}, n ≤ n' → N ≤ N' → Sub (callA p N n) (callA p N' n')
  | 0, n', N, N', hn, hN => by intro f args h r H; simp [callA] at H
  | n + 1, n', N, N', hn, hN => by
    obtain ⟨m, rfl⟩ : ∃ m, n' = m + 1 := ⟨n' - 1, by omega⟩
    have ih : Sub (callA p N n) (callA p N' m) := callA_mono p (by omega) hN
    intro f args h r H
    unfold callA at *
    by_cases hny : f = YLD
    · rw [if_pos hny] at H ⊢
      exact yieldA_mono ih hN H
    rw [if_neg hny] at H ⊢
    cases hf : p[f]? with
    | none => simp [hf] at H
    | some o =>
      cases o with
      | none => simp [hf] at H
      | some fn =>
        simp only [hf] at H ⊢
        by_cases hl : args.length = fn.nargs
        · rw [if_pos hl] at H ⊢
          cases hm : fn.mode with
          | keep => simp only [hm] at H ⊢; exact bodyA_mono ih hN H
          | auto =>
            simp only [hm] at H ⊢
            by_cases hfr : V.freeL args = true
            · rw [if_pos hfr] at H ⊢
              cases hb : bodyA p (callA p N n) N 0 fn args (deads fn.sites) with
              | none => simp [hb] at H
              | some x => rw [hb] at H; rw [bodyA_mono ih hN hb]; exact H
            · rw [if_neg hfr] at H ⊢
              exact bodyA_mono ih hN H
          | pure =>
            simp only [hm] at H ⊢
            by_cases hfr : V.freeL args = true
            · rw [if_pos hfr] at H ⊢
              cases hb : bodyA p (callA p N n) N 0 fn args (deads fn.sites) with
              | none => simp [hb] at H
              | some x => rw [hb] at H; rw [bodyA_mono ih hN hb]; exact H
            · rw [if_neg hfr] at H
              cases H
          | look =>
            simp only [hm] at H ⊢
            cases ha : args.mapM (V.shut (fun o => h[o]?) sealDepth) with
            | none => simp [ha] at H
            | some args' =>
              simp only [ha] at H ⊢
              cases hb : bodyA p (callA p N n) N 0 fn args' (deads fn.sites) with
              | none => simp [hb] at H
              | some x => rw [hb] at H; rw [bodyA_mono ih hN hb]; exact H
        · rw [if_neg hl] at H
          cases H
theorem callA_heap {p : AProg} {N n : Nat} {f : FuncId} {args : List V} {h h' : Heap} {v : V} (hm : pureOf p f = .pure) (H : callA p N n f args h' = some (v, h')) (hy : f ≠ YLD := by decide) : callA p N n f args h = some (v, h) := by
  cases n with
  | zero => simp [callA] at H
  | succ n =>
    unfold callA at *
    rw [if_neg hy] at H ⊢
    unfold pureOf at hm
    cases hf : p[f]? with
    | none => simp [hf] at H
    | some o =>
      cases o with
      | none => simp [hf] at H
      | some fn =>
        simp only [hf] at H hm ⊢
        by_cases hl : args.length = fn.nargs
        · rw [if_pos hl] at H ⊢
          simp only [hm] at H ⊢
          by_cases hfr : V.freeL args = true
          · rw [if_pos hfr] at H ⊢
            cases hb : bodyA p (callA p N n) N 0 fn args (deads fn.sites) with
            | none => simp [hb] at H
            | some x =>
              obtain ⟨y, k⟩ := x
              simp only [hb] at H ⊢
              cases hs : V.shut (fun o => k[o]?) sealDepth y with
              | none => simp [hs] at H
              | some z =>
                simp only [hs, Option.some.injEq, Prod.mk.injEq] at H ⊢
                exact ⟨H.1, trivial⟩
          · rw [if_neg hfr] at H
            cases H
        · rw [if_neg hl] at H
          cases H
theorem closed_call {p : AProg} {N0 n0 : Nat} {f : FuncId} {args : List V} {v : V} (hm : pureOf p f = .pure) (H : callA p N0 n0 f args [] = some (v, [])) {N n : Nat} (hN : N0 ≤ N) (hn : n0 ≤ n) (h : Heap) (hy : f ≠ YLD := by decide) : callA p N n f args h = some (v, h) :=
  callA_mono p hn hN f args h (v, h) (callA_heap (h := h) (h' := []) hm H hy)
theorem call_look {p : AProg} {N n : Nat} {f : FuncId} {fn : AFunc} {args args' : List V} {h : Heap} {v : V} (hf : p[f]? = some (some fn)) (hm : fn.mode = .look) (ha : args.length = fn.nargs) (hl : fn.nargs ≤ fn.nt)
    (hs : args.mapM (V.shut (fun o => h[o]?) sealDepth) = some args')
    (H : wp ⟨pureOf p, callA p N n, N, 0⟩ fn.body (fr fn.nt (argsF 0 args')) (deads fn.sites) (retQ fn.res fun x h' => x = v ∧ v.plain = true)) (hy : f ≠ YLD := by decide) :
    callA p N (n + 1) f args h = some (v, h) := by
  have hl' : args'.length = args.length := (mapM_get hs).1
  obtain ⟨x, h', hb, hx, hp⟩ := body_of_wp (by omega) H
  subst hx
  unfold callA
  rw [if_neg hy]
  simp only [hf, ha, ↓reduceIte, hm, hs, hb, hp]
theorem call_auto {p : AProg} {N n : Nat} {f : FuncId} {fn : AFunc} {args : List V} {h : Heap} {v : V} (hf : p[f]? = some (some fn)) (hm : fn.mode = .auto) (ha : args.length = fn.nargs) (hl : fn.nargs ≤ fn.nt)
    (hfree : V.freeL args = true)
    (H : wp ⟨pureOf p, callA p N n, N, 0⟩ fn.body (fr fn.nt (argsF 0 args)) (deads fn.sites) (retQ fn.res fun x h' => V.shut (fun o => h'[o]?) sealDepth x = some v)) (hy : f ≠ YLD := by decide) :
    callA p N (n + 1) f args h = some (v, h) := by
  obtain ⟨x, h', hb, hs⟩ := body_of_wp (by omega) H
  unfold callA
  rw [if_neg hy]
  simp only [hf, ha, ↓reduceIte, hm, hfree, hb, hs]
theorem plain_bool (b : Bool) : (V.bool b).plain = true := rfl
theorem plain_int (k : IntKind) (b : Int) : (V.int k b).plain = true := rfl
end Go.Am


set_option linter.unusedVariables false
set_option linter.unusedSimpArgs false
namespace Go.Am
structure IsL (l : V) (s : Nat) (cs : List (List V)) : Prop where
  free : l.free = true
  len : lenA l = some cs.length
  nstr : ∀ b, l ≠ .str b
  at_ : ∀ i : Nat, iaddrSA s l (.int .i64 i) = match cs[i]? with | some c => some (.ret (.iptr c 0)) | none => none
  first : ∀ get n, n ≤ cs.length → firstA get s n l = some (cs.take n).flatten
theorem isL_nils (s : Nat) : IsL .nils s [] := ⟨rfl, rfl, by simp, fun i => rfl, fun get n hn => by simp at hn; subst hn; rfl⟩
theorem isL_sl {L : List V} {s : Nat} {c : Option Nat} {cs : List (List V)} (hf : V.freeL L = true) (hc : L.map V.cells = cs) : IsL (.sl L s c) s cs := by
  subst hc
  refine ⟨hf, by simp [lenA], by simp, fun i => ?_, fun get n hn => ?_⟩
  · simp only [iaddrSA, ↓reduceIte, indexedI, Int.natCast_nonneg, Int.ofNat_lt, Int.toNat_natCast, List.getElem?_map]
    by_cases h : i < L.length
    · simp [h]
    · simp [h]
  · simp only [List.length_map] at hn
    simp only [firstA, ↓reduceIte, if_pos hn]
    congr 1
    rw [← List.map_take, List.flatMap_def]
theorem flat_at {s : Nat} : ∀ {cs : List (List V)} {rest : List V} {i : Nat} {c : List V}, (∀ c ∈ cs, c.length = s) → cs[i]? = some c → ((cs.flatten ++ rest).drop (i * s)).take s = c
  | [], rest, i, c, _, h => by simp at h
  | c0 :: cs, rest, 0, c, hs, h => by
    simp only [List.getElem?_cons_zero, Option.some.injEq] at h
    subst h
    have := hs c0 (by simp)
    rw [Nat.zero_mul, List.drop_zero, List.flatten_cons, List.append_assoc, List.take_append_of_le_length (by omega), List.take_of_length_le (by omega)]
  | c0 :: cs, rest, i + 1, c, hs, h => by
    have h0 := hs c0 (by simp)
    rw [List.getElem?_cons_succ] at h
    rw [List.flatten_cons, List.append_assoc, show (i + 1) * s = c0.length + i * s by rw [h0, Nat.add_mul, Nat.one_mul, Nat.add_comm], List.drop_append, List.drop_eq_nil_of_le (by omega), List.nil_append]
    rw [show c0.length + i * s - c0.length = i * s by omega]
    exact flat_at (fun c hc => hs c (by simp [hc])) h
theorem lenA_sl {L : List V} {s : Nat} {c : Option Nat} : lenA (.sl L s c) = some L.length := rfl
theorem lenA_view {o v f n s : Nat} {c : Option Nat} : lenA (.view o v f n s c) = some n := rfl
theorem firstA_sl {get : Nat → Option Ob} {L : List V} {s : Nat} {c : Option Nat} : firstA get s L.length (.sl L s c) = some (L.flatMap V.cells) := by
  simp [firstA]
theorem call_keep {p : AProg} {N n : Nat} {f : FuncId} {fn : AFunc} {args : List V} {h : Heap} {C : V → Heap → Prop} (hf : p[f]? = some (some fn)) (hm : fn.mode = .keep) (ha : args.length = fn.nargs) (hl : fn.nargs ≤ fn.nt)
    (H : wp ⟨pureOf p, callA p N n, N, h.length⟩ fn.body (fr fn.nt (argsF 0 args)) (h ++ deads fn.sites) (retQ fn.res C)) (hy : f ≠ YLD := by decide) : ∃ v h', callA p N (n + 1) f args h = some (v, h') ∧ C v h' := by
  obtain ⟨v, h', hb, hc⟩ := body_of_wp (by omega) H
  refine ⟨v, h', ?_, hc⟩
  unfold callA
  rw [if_neg hy]
  simp only [hf, ha, ↓reduceIte, hm, hb]
theorem call_keep_eq {p : AProg} {N n : Nat} {f : FuncId} {fn : AFunc} {args : List V} {h h' : Heap} {v : V} (hf : p[f]? = some (some fn)) (hm : fn.mode = .keep) (ha : args.length = fn.nargs) (hl : fn.nargs ≤ fn.nt)
    (H : wp ⟨pureOf p, callA p N n, N, h.length⟩ fn.body (fr fn.nt (argsF 0 args)) (h ++ deads fn.sites) (retQ fn.res fun x k => x = v ∧ k = h')) (hy : f ≠ YLD := by decide) : callA p N (n + 1) f args h = some (v, h') := by
  obtain ⟨x, k, h1, rfl, rfl⟩ := call_keep hf hm ha hl H hy
  exact h1
theorem app_get0 {h : Heap} {l : List Ob} : (h ++ l)[h.length]? = l[0]? := by rw [List.getElem?_append_right (Nat.le_refl _), Nat.sub_self]
theorem app_get {h : Heap} {l : List Ob} {k : Nat} : (h ++ l)[h.length + k]? = l[k]? := by rw [List.getElem?_append_right (by omega), Nat.add_sub_cancel_left]
theorem app_set0 {h : Heap} {l : List Ob} {x : Ob} : (h ++ l).set h.length x = h ++ l.set 0 x := by rw [List.set_append_right _ _ (Nat.le_refl _), Nat.sub_self]
theorem app_set {h : Heap} {l : List Ob} {k : Nat} {x : Ob} : (h ++ l).set (h.length + k) x = h ++ l.set k x := by rw [List.set_append_right _ _ (by omega), Nat.add_sub_cancel_left]
def wdK (E : Env) (n : Nat) (dst : Option Nat) (os : List (AOper × List Nat)) (fps : List FpT) (b : Bool) (f : Fp) (h0 : Heap) (t : List V) (K : Cont) (v : V) (h : Heap) : Prop := wpd E n os (fps ++ [tagP b f h0 h]) (put t dst v) h K
theorem wpd_nil {E : Env} {n : Nat} {fps : List FpT} {t : List V} {h : Heap} {K : Cont} : wpd E n [] fps t h K = K t h := rfl
theorem wpd_cons {E : Env} {n : Nat} {dst : Option Nat} {op : AOp} {ps : List Nat} {os : List (AOper × List Nat)} {fps : List FpT} {t : List V} {h : Heap} {K : Cont} :
    wpd E n ((⟨dst, op, none⟩, ps) :: os) fps t h K = ((ps.all fun k => (fps.getD k .bar).ok n (fpOf E.pureF E.fb (ev t) h op)) = true ∧ wop E op t h (wdK E n dst os fps (op.rds (ev t)) (fpOf E.pureF E.fb (ev t) h op) h t K)) := by
  have e : (ps.all fun k => (fps.getD k .bar).ok n (fpOf E.pureF E.fb (ev t) h op)) = (ps.all fun k => (fps.getD k .bar).ok n (fpAt E.pureF E.fb ⟨dst, op, none⟩ t h)) := rfl
  have e2 : fpOf E.pureF E.fb (ev t) h op = fpAt E.pureF E.fb ⟨dst, op, none⟩ t h := rfl
  rw [e, e2]
  unfold wpd
  simp only [runDraw]
  cases hc : (ps.all fun k => (fps.getD k .bar).ok n (fpAt E.pureF E.fb ⟨dst, op, none⟩ t h)) with
  | false => simp
  | true =>
    simp only [↓reduceIte, true_and, wop, wdK, wpd, stepOp, wanted]
    cases doOp E.call E.fb op (ev t) h <;> rfl
theorem wdK_def {E : Env} {n : Nat} {dst : Option Nat} {os : List (AOper × List Nat)} {fps : List FpT} {b : Bool} {f : Fp} {h0 : Heap} {t : List V} {K : Cont} {v : V} {h : Heap} : wdK E n dst os fps b f h0 t K v h = wpd E n os (fps ++ [tagP b f h0 h]) (put t dst v) h K := rfl
theorem sx_drawd {E : Env} {ops : List (AOper × List Nat)} {t : List V} {h : Heap} {Q : Post} (hp : plainD ops = false) : sx E (.draw ops) t h Q = wpd E.framed h.length ops [] t h (Q .norm) := by simp only [sx, hp]
theorem sr_nil {cs : List V} : setRange cs 0 [] = cs := by simp [setRange]
theorem sr_cons {a b : V} {cs bs : List V} : setRange (a :: cs) 0 (b :: bs) = b :: setRange cs 0 bs := by
  simp [setRange]
theorem sr_succ {a : V} {cs bs : List V} {n : Nat} : setRange (a :: cs) (n + 1) bs = a :: setRange cs n bs := by
  simp only [setRange, List.take_succ_cons, List.cons_append, List.cons.injEq, true_and]
  rw [show n + 1 + bs.length = (n + bs.length) + 1 by omega, List.drop_succ_cons]
theorem sr_all {cs bs : List V} (h : bs.length = cs.length) : setRange cs 0 bs = bs := by
  simp [setRange, ← h]
theorem sr_len {cs bs : List V} {n : Nat} (h : n + bs.length ≤ cs.length) : (setRange cs n bs).length = cs.length := setRange_length _ _ _ h
def cvP (E : Env) (f : V) (args : List V) (h : Heap) (C : V → Heap → Prop) : Prop :=
  match f with
  | .func g xs ys => if g = YLD then False else wcall (E.call g (xs ++ args ++ ys) h) C
  | .yld o ver => wcall (E.call YLD (.yld o ver :: args) h) C
  | _ => False
theorem wop_cv {E : Env} {f : Opd} {args : List Opd} {t : List V} {h : Heap} {C : V → Heap → Prop} : wop E (.callv f args) t h C = cvP E (ev t f) (args.map (ev t)) h C := by
  unfold wop cvP
  simp only [doOp]
  cases ev t f <;> try rfl
  simp only
  split <;> rfl
theorem cvP_func {E : Env} {g : FuncId} {xs ys args : List V} {h : Heap} {C : V → Heap → Prop} (hy : g ≠ 1000000007) : cvP E (.func g xs ys) args h C = wcall (E.call g (xs ++ args ++ ys) h) C := by
  have hy' : ¬ g = YLD := hy
  simp only [cvP, if_neg hy']
theorem cvP_yld {E : Env} {o ver : Nat} {args : List V} {h : Heap} {C : V → Heap → Prop} : cvP E (.yld o ver) args h C = wcall (E.call YLD (.yld o ver :: args) h) C := rfl
theorem freeL_of_mem : ∀ {l : List V}, (∀ c ∈ l, c.free = true) → V.freeL l = true
  | [], _ => rfl
  | c :: l, h => by rw [freeL_cons, h c (by simp), freeL_of_mem (fun d hd => h d (by simp [hd]))]; rfl
theorem freeL_mem : ∀ {l : List V}, V.freeL l = true → ∀ c ∈ l, c.free = true
  | [], _, c, hc => by cases hc
  | d :: l, h, c, hc => by
    simp only [freeL_cons, Bool.and_eq_true] at h
    rcases List.mem_cons.1 hc with rfl | hc
    · exact h.1
    · exact freeL_mem h.2 c hc
end Go.Am


set_option linter.unusedVariables false
namespace Go.Am.T
def am5 : AFunc := { nargs := 3, nt := 188, sites := 3, mode := .auto, body := .seq (.seq (.region [⟨some 6, .move (.cst (.bool false)), none⟩]) (.clr [6])) (.seq (.seq (.seq (.region [⟨some 24, .call 8 [], none⟩, ⟨some 25, .un .not (.tmp 24), none⟩]) (.clr [24])) (.cond (.tmp 25) (.seq (.clr [25, 2, 1, 0]) (.seq (.region [⟨some 6, .move (.cst (.bool false)), none⟩]) .ret)) (.seq (.clr [25]) .skip))) (.seq (.seq (.seq (.region [⟨some 26, .move (.tmp 0), none⟩, ⟨some 27, .call 13 [.tmp 26], none⟩, ⟨some 28, .move (.tmp 27), none⟩, ⟨some 29, .move (.tmp 1), some (28, false)⟩, ⟨some 30, .lenS (.tmp 29), some (28, false)⟩, ⟨some 31, .bin .gtr (.tmp 30) (.cst (.int .i64 40)), some (28, false)⟩, ⟨some 32, .pick (.tmp 28) (.cst (.bool true)) (.tmp 31), none⟩, ⟨some 33, .move (.tmp 32), none⟩, ⟨some 34, .move (.tmp 2), some (33, false)⟩, ⟨some 35, .bin .lss (.tmp 34) (.cst (.int .i64 0)), some (33, false)⟩, ⟨some 36, .pick (.tmp 33) (.cst (.bool true)) (.tmp 35), none⟩]) (.clr [35, 34, 33, 32, 31, 30, 29, 28, 27, 26])) (.cond (.tmp 36) (.seq (.clr [36, 2, 1, 0]) (.seq (.region [⟨some 6, .move (.cst (.bool true)), none⟩]) .ret)) (.seq (.clr [36]) .skip))) (.seq (.seq (.region [⟨some 38, .call 15 [.cst (.int .i64 40), .cst (.int .i64 2)], none⟩, ⟨some 37, .move (.tmp 38), none⟩, ⟨some 39, .extract (.tmp 37) 0, none⟩, ⟨some 40, .extract (.tmp 37) 1, none⟩, ⟨some 7, .move (.tmp 39), none⟩, ⟨some 8, .move (.tmp 40), none⟩]) (.clr [40, 39, 38, 37])) (.seq (.seq (.region [⟨some 41, .call 14 [.cst (.int .i64 40), .cst (.int .i64 2)], none⟩, ⟨some 9, .move (.tmp 41), none⟩]) (.clr [41])) (.seq (.seq (.region [⟨some 42, .move (.tmp 8), none⟩, ⟨some 43, .call 11 [.tmp 42], none⟩, ⟨some 44, .bin .eql (.tmp 43) (.cst (.int .i64 0)), none⟩, ⟨some 10, .move (.tmp 44), none⟩]) (.clr [44, 43, 42, 8])) (.seq (.seq (.region [⟨some 11, .move (.cst (.int .i64 0)), none⟩]) (.block 0 (.loop [] [] (.seq (.seq (.seq (.region [⟨some 45, .move (.tmp 11), none⟩, ⟨some 46, .move (.tmp 0), none⟩, ⟨some 47, .lenS (.tmp 46), none⟩, ⟨some 48, .bin .lss (.tmp 45) (.tmp 47), none⟩, ⟨some 49, .move (.tmp 48), none⟩, ⟨some 50, .move (.tmp 11), some (49, true)⟩, ⟨some 51, .bin .lss (.tmp 50) (.cst (.int .i64 40)), some (49, true)⟩, ⟨some 52, .pick (.tmp 49) (.tmp 51) (.cst (.bool false)), none⟩, ⟨some 53, .move (.tmp 52), none⟩, ⟨some 54, .move (.tmp 10), some (53, true)⟩, ⟨some 55, .pick (.tmp 53) (.tmp 54) (.cst (.bool false)), none⟩]) (.clr [54, 53, 52, 51, 50, 49, 48, 47, 46, 45])) (.cond (.tmp 55) (.seq (.clr [55, 10]) .skip) (.seq (.clr [55, 11, 9, 0]) (.exit 0)))) (.seq (.block 1 (.seq (.seq (.region [⟨some 58, .move (.tmp 9), none⟩, ⟨some 59, .nilck (.tmp 58), none⟩, ⟨some 60, .faddr 1 (.tmp 59), none⟩, ⟨some 61, .load none (.tmp 60), none⟩, ⟨some 62, .append 0 1 8 (.cst .nils) (.tmp 61), none⟩, ⟨some 12, .move (.tmp 62), none⟩]) (.clr [62, 61, 60, 59, 58])) (.seq (.seq (.region [⟨some 64, .move (.tmp 7), none⟩, ⟨some 65, .move (.tmp 9), none⟩, ⟨some 66, .move (.tmp 0), none⟩, ⟨some 67, .move (.tmp 11), none⟩, ⟨some 68, .iaddrS 134 (.tmp 66) (.tmp 67), none⟩, ⟨some 69, .load (some 134) (.tmp 68), none⟩, ⟨some 70, .call 16 [.tmp 64, .tmp 65, .tmp 69], none⟩, ⟨some 63, .move (.tmp 70), none⟩, ⟨some 71, .extract (.tmp 63) 0, none⟩, ⟨some 72, .extract (.tmp 63) 1, none⟩, ⟨some 73, .extract (.tmp 63) 2, none⟩, ⟨some 7, .move (.tmp 71), none⟩, ⟨some 9, .move (.tmp 72), none⟩, ⟨some 10, .move (.tmp 73), none⟩]) (.clr [73, 72, 71, 70, 69, 68, 67, 66, 65, 64, 63])) (.seq (.region [⟨some 13, .move (.cst (.int .i64 0)), none⟩]) (.block 2 (.loop [] [] (.seq (.seq (.seq (.region [⟨some 74, .move (.tmp 13), none⟩, ⟨some 75, .bin .lss (.tmp 74) (.cst (.int .i64 2)), none⟩, ⟨some 76, .move (.tmp 75), none⟩, ⟨some 77, .move (.tmp 10), some (76, true)⟩, ⟨some 78, .pick (.tmp 76) (.tmp 77) (.cst (.bool false)), none⟩]) (.clr [77, 76, 75, 74])) (.cond (.tmp 78) (.seq (.clr [78, 10]) .skip) (.seq (.clr [78, 13, 12]) (.exit 2)))) (.seq (.block 3 (.seq (.seq (.region [⟨some 82, .move (.tmp 7), none⟩, ⟨some 83, .move (.tmp 13), none⟩, ⟨some 84, .call 19 [.tmp 82, .tmp 83], none⟩, ⟨some 81, .move (.tmp 84), none⟩, ⟨some 85, .extract (.tmp 81) 0, none⟩, ⟨some 86, .extract (.tmp 81) 1, none⟩, ⟨some 14, .move (.tmp 85), none⟩, ⟨some 15, .move (.tmp 86), none⟩]) (.clr [86, 85, 84, 83, 82, 81, 15])) (.seq (.region [⟨some 87, .move (.tmp 14), none⟩, ⟨some 88, .move (.tmp 12), none⟩, ⟨some 89, .move (.tmp 13), none⟩, ⟨some 90, .iaddrS 1 (.tmp 88) (.tmp 89), none⟩, ⟨some 91, .load none (.tmp 90), none⟩, ⟨some 92, .bin .geq (.tmp 87) (.tmp 91), none⟩, ⟨some 10, .move (.tmp 92), none⟩]) (.clr [92, 91, 90, 89, 88, 87, 14])))) (.seq (.region [⟨some 79, .move (.tmp 13), none⟩, ⟨some 80, .bin .add (.tmp 79) (.cst (.int .i64 1)), none⟩, ⟨some 13, .move (.tmp 80), none⟩]) (.clr [80, 79])))))))))) (.seq (.region [⟨some 56, .move (.tmp 11), none⟩, ⟨some 57, .bin .add (.tmp 56) (.cst (.int .i64 1)), none⟩, ⟨some 11, .move (.tmp 57), none⟩]) (.clr [57, 56]))))))) (.seq (.seq (.seq (.region [⟨some 93, .move (.tmp 10), none⟩, ⟨some 94, .un .not (.tmp 93), none⟩]) (.clr [93, 10])) (.cond (.tmp 94) (.seq (.clr [94, 7, 2, 1]) (.seq (.region [⟨some 6, .move (.cst (.bool false)), none⟩]) .ret)) (.seq (.clr [94]) .skip))) (.seq (.seq (.region [⟨some 95, .move (.tmp 7), none⟩, ⟨some 96, .call 20 [.tmp 95], none⟩]) (.clr [96, 95])) (.seq (.seq (.region [⟨some 98, .move (.tmp 7), none⟩, ⟨some 99, .call 19 [.tmp 98, .cst (.int .i64 0)], none⟩, ⟨some 97, .move (.tmp 99), none⟩, ⟨some 100, .extract (.tmp 97) 0, none⟩, ⟨some 101, .extract (.tmp 97) 1, none⟩, ⟨some 16, .move (.tmp 100), none⟩, ⟨some 17, .move (.tmp 101), none⟩]) (.clr [101, 100, 99, 98, 97, 17])) (.seq (.seq (.region [⟨some 102, .move (.tmp 7), none⟩, ⟨some 103, .call 21 [.tmp 102], none⟩, ⟨some 18, .move (.tmp 103), none⟩]) (.clr [103, 102])) (.seq (.seq (.seq (.region [⟨some 104, .move (.tmp 16), none⟩, ⟨some 105, .bin .gtr (.tmp 104) (.cst (.int .i64 0)), none⟩, ⟨some 106, .move (.tmp 105), none⟩, ⟨some 107, .move (.tmp 7), some (106, true)⟩, ⟨some 108, .move (.tmp 16), some (106, true)⟩, ⟨some 109, .bin .sub (.tmp 108) (.cst (.int .i64 1)), some (106, true)⟩, ⟨some 110, .call 23 [.cst (.int .u8 1)], some (106, true)⟩, ⟨some 111, .bslice [.int .u8 0, .int .u8 0, .int .u8 0, .int .u8 0, .int .u8 0, .int .u8 0, .int .u8 0, .int .u8 0, .int .u8 0, .int .u8 0, .int .u8 0, .int .u8 0, .int .u8 0, .int .u8 0, .int .u8 0, .int .u8 0, .int .u8 0, .int .u8 0, .int .u8 0, .int .u8 0, .int .u8 0, .int .u8 0, .int .u8 0, .int .u8 0, .int .u8 0, .int .u8 0, .int .u8 0, .int .u8 0, .int .u8 0, .int .u8 0, .int .u8 0, .int .u8 0, .int .u8 0, .int .u8 0, .int .u8 0, .int .u8 0, .int .u8 0, .int .u8 0, .int .u8 0, .int .u8 0, .int .u8 0, .int .u8 0, .int .u8 0, .int .u8 0, .int .u8 0, .int .u8 0, .int .u8 0, .int .u8 0, .int .u8 0, .int .u8 0, .int .u8 0, .int .u8 0, .int .u8 0, .int .u8 0, .int .u8 0, .int .u8 0, .int .u8 0, .int .u8 0, .int .u8 0, .int .u8 0, .int .u8 0, .int .u8 0, .int .u8 0, .int .u8 0] 1 64 [(0, 64, .tmp 110)], some (106, true)⟩, ⟨some 112, .call 22 [.tmp 107, .cst (.int .i64 0), .tmp 109, .cst (.int .i64 0), .tmp 111], some (106, true)⟩, ⟨some 113, .call 11 [.tmp 112], some (106, true)⟩, ⟨some 114, .bin .neq (.tmp 113) (.cst (.int .i64 8)), some (106, true)⟩, ⟨some 115, .pick (.tmp 106) (.tmp 114) (.cst (.bool false)), none⟩, ⟨some 116, .move (.tmp 115), none⟩, ⟨some 117, .move (.tmp 16), some (116, false)⟩, ⟨some 118, .bin .gtr (.tmp 117) (.cst (.int .i64 0)), some (116, false)⟩, ⟨some 119, .move (.tmp 118), some (116, false)⟩, ⟨some 120, .move (.tmp 7), some (119, true)⟩, ⟨some 121, .move (.tmp 16), some (119, true)⟩, ⟨some 122, .bin .sub (.tmp 121) (.cst (.int .i64 1)), some (119, true)⟩, ⟨some 123, .call 24 [.tmp 120, .cst (.int .i64 0), .tmp 122, .cst (.int .i64 1), .cst (.int .i64 9)], some (119, true)⟩, ⟨some 124, .call 11 [.tmp 123], some (119, true)⟩, ⟨some 125, .bin .neq (.tmp 124) (.cst (.int .i64 8)), some (119, true)⟩, ⟨some 126, .pick (.tmp 119) (.tmp 125) (.cst (.bool false)), some (116, false)⟩, ⟨some 127, .pick (.tmp 116) (.cst (.bool true)) (.tmp 126), none⟩, ⟨some 128, .move (.tmp 127), none⟩, ⟨some 129, .move (.tmp 7), some (128, false)⟩, ⟨some 130, .move (.tmp 18), some (128, false)⟩, ⟨some 131, .call 17 [.tmp 129, .tmp 130], some (128, false)⟩, ⟨some 132, .un .not (.tmp 131), some (128, false)⟩, ⟨some 133, .pick (.tmp 128) (.cst (.bool true)) (.tmp 132), none⟩]) (.clr [132, 131, 130, 129, 128, 127, 126, 125, 124, 123, 122, 121, 120, 119, 118, 117, 116, 115, 114, 113, 112, 111, 110, 109, 108, 107, 106, 105, 104])) (.cond (.tmp 133) (.seq (.clr [133, 18, 16, 7, 2, 1]) (.seq (.region [⟨some 6, .move (.cst (.bool false)), none⟩]) .ret)) (.seq (.clr [133]) .skip))) (.seq (.seq (.seq (.region [⟨some 134, .move (.tmp 7), none⟩, ⟨some 135, .move (.tmp 2), none⟩, ⟨some 136, .call 25 [.tmp 134, .tmp 135], none⟩, ⟨some 137, .call 11 [.tmp 136], none⟩, ⟨some 138, .bin .neq (.tmp 137) (.cst (.int .i64 0)), none⟩, ⟨some 139, .move (.tmp 138), none⟩, ⟨some 140, .move (.tmp 7), some (139, false)⟩, ⟨some 141, .move (.tmp 16), some (139, false)⟩, ⟨some 142, .move (.tmp 1), some (139, false)⟩, ⟨some 143, .call 22 [.tmp 140, .cst (.int .i64 0), .tmp 141, .cst (.int .i64 0), .tmp 142], some (139, false)⟩, ⟨some 144, .call 11 [.tmp 143], some (139, false)⟩, ⟨some 145, .bin .neq (.tmp 144) (.cst (.int .i64 0)), some (139, false)⟩, ⟨some 146, .pick (.tmp 139) (.cst (.bool true)) (.tmp 145), none⟩, ⟨some 147, .move (.tmp 146), none⟩, ⟨some 148, .move (.tmp 7), some (147, false)⟩, ⟨some 149, .call 20 [.tmp 148], some (147, false)⟩, ⟨some 150, .move (.tmp 1), some (147, false)⟩, ⟨some 151, .lenS (.tmp 150), some (147, false)⟩, ⟨some 152, .move (.tmp 2), some (147, false)⟩, ⟨some 153, .bin .leq (.tmp 151) (.tmp 152), some (147, false)⟩, ⟨some 154, .eqc true false [.b] (.tmp 149) (.tmp 153), some (147, false)⟩, ⟨some 155, .pick (.tmp 147) (.cst (.bool true)) (.tmp 154), none⟩]) (.clr [154, 153, 152, 151, 150, 149, 148, 147, 146, 145, 144, 143, 142, 141, 140, 139, 138, 137, 136, 135, 134, 16])) (.cond (.tmp 155) (.seq (.clr [155, 18, 7, 2, 1]) (.seq (.region [⟨some 6, .move (.cst (.bool false)), none⟩]) .ret)) (.seq (.clr [155]) .skip))) (.seq (.seq (.region [⟨some 19, .move (.cst (.int .i64 0)), none⟩]) (.block 4 (.loop [] [] (.seq (.seq (.seq (.region [⟨some 156, .move (.tmp 19), none⟩, ⟨some 157, .bin .lss (.tmp 156) (.cst (.int .i64 40)), none⟩]) (.clr [156])) (.cond (.tmp 157) (.seq (.clr [157]) .skip) (.seq (.clr [157, 19, 18, 7, 2, 1]) (.exit 4)))) (.seq (.block 5 (.seq (.seq (.region [⟨some 161, .move (.tmp 7), none⟩, ⟨some 162, .move (.tmp 19), none⟩, ⟨some 163, .call 26 [.tmp 161, .tmp 162], none⟩, ⟨some 160, .move (.tmp 163), none⟩, ⟨some 164, .extract (.tmp 160) 0, none⟩, ⟨some 165, .extract (.tmp 160) 1, none⟩, ⟨some 20, .allocz 1 [.int .u8 0, .int .u8 0, .int .u8 0, .int .u8 0, .int .u8 0, .int .u8 0, .int .u8 0, .int .u8 0, .int .u8 0, .int .u8 0, .int .u8 0, .int .u8 0, .int .u8 0, .int .u8 0, .int .u8 0, .int .u8 0, .int .u8 0, .int .u8 0, .int .u8 0, .int .u8 0, .int .u8 0, .int .u8 0, .int .u8 0, .int .u8 0, .int .u8 0, .int .u8 0, .int .u8 0, .int .u8 0, .int .u8 0, .int .u8 0, .int .u8 0, .int .u8 0, .int .u8 0, .int .u8 0, .int .u8 0, .int .u8 0, .int .u8 0, .int .u8 0, .int .u8 0, .int .u8 0, .int .u8 0, .int .u8 0, .int .u8 0, .int .u8 0, .int .u8 0, .int .u8 0, .int .u8 0, .int .u8 0, .int .u8 0, .int .u8 0, .int .u8 0, .int .u8 0, .int .u8 0, .int .u8 0, .int .u8 0, .int .u8 0, .int .u8 0, .int .u8 0, .int .u8 0, .int .u8 0, .int .u8 0, .int .u8 0, .int .u8 0, .int .u8 0], none⟩, ⟨none, .store 64 (.tmp 20) (.tmp 164), none⟩, ⟨some 21, .move (.tmp 165), none⟩]) (.clr [165, 164, 163, 162, 161, 160, 21])) (.seq (.seq (.region [⟨some 167, .move (.tmp 18), none⟩, ⟨some 168, .move (.tmp 19), none⟩, ⟨some 169, .call 26 [.tmp 167, .tmp 168], none⟩, ⟨some 166, .move (.tmp 169), none⟩, ⟨some 170, .extract (.tmp 166) 0, none⟩, ⟨some 171, .extract (.tmp 166) 1, none⟩, ⟨some 22, .allocz 2 [.int .u8 0, .int .u8 0, .int .u8 0, .int .u8 0, .int .u8 0, .int .u8 0, .int .u8 0, .int .u8 0, .int .u8 0, .int .u8 0, .int .u8 0, .int .u8 0, .int .u8 0, .int .u8 0, .int .u8 0, .int .u8 0, .int .u8 0, .int .u8 0, .int .u8 0, .int .u8 0, .int .u8 0, .int .u8 0, .int .u8 0, .int .u8 0, .int .u8 0, .int .u8 0, .int .u8 0, .int .u8 0, .int .u8 0, .int .u8 0, .int .u8 0, .int .u8 0, .int .u8 0, .int .u8 0, .int .u8 0, .int .u8 0, .int .u8 0, .int .u8 0, .int .u8 0, .int .u8 0, .int .u8 0, .int .u8 0, .int .u8 0, .int .u8 0, .int .u8 0, .int .u8 0, .int .u8 0, .int .u8 0, .int .u8 0, .int .u8 0, .int .u8 0, .int .u8 0, .int .u8 0, .int .u8 0, .int .u8 0, .int .u8 0, .int .u8 0, .int .u8 0, .int .u8 0, .int .u8 0, .int .u8 0, .int .u8 0, .int .u8 0, .int .u8 0], none⟩, ⟨none, .store 64 (.tmp 22) (.tmp 170), none⟩, ⟨some 23, .move (.tmp 171), none⟩]) (.clr [171, 170, 169, 168, 167, 166, 23])) (.seq (.seq (.seq (.region [⟨some 172, .move (.tmp 19), none⟩, ⟨some 173, .move (.tmp 1), none⟩, ⟨some 174, .lenS (.tmp 173), none⟩, ⟨some 175, .bin .lss (.tmp 172) (.tmp 174), none⟩, ⟨some 176, .move (.tmp 175), none⟩, ⟨some 177, .move (.tmp 19), some (176, true)⟩, ⟨some 178, .move (.tmp 2), some (176, true)⟩, ⟨some 179, .bin .lss (.tmp 177) (.tmp 178), some (176, true)⟩, ⟨some 180, .pick (.tmp 176) (.tmp 179) (.cst (.bool false)), none⟩]) (.clr [179, 178, 177, 176, 175, 174, 173, 172])) (.cond (.tmp 180) (.seq (.clr [180]) (.seq (.region [⟨some 181, .move (.tmp 1), none⟩, ⟨some 182, .move (.tmp 19), none⟩, ⟨some 183, .iaddrS 64 (.tmp 181) (.tmp 182), none⟩, ⟨some 184, .load (some 64) (.tmp 183), none⟩, ⟨none, .store 64 (.tmp 22) (.tmp 184), none⟩]) (.clr [184, 183, 182, 181]))) (.seq (.clr [180]) .skip))) (.seq (.seq (.region [⟨some 185, .load (some 64) (.tmp 20), none⟩, ⟨some 186, .load (some 64) (.tmp 22), none⟩, ⟨some 187, .eqc true true [.i .u8, .i .u8, .i .u8, .i .u8, .i .u8, .i .u8, .i .u8, .i .u8, .i .u8, .i .u8, .i .u8, .i .u8, .i .u8, .i .u8, .i .u8, .i .u8, .i .u8, .i .u8, .i .u8, .i .u8, .i .u8, .i .u8, .i .u8, .i .u8, .i .u8, .i .u8, .i .u8, .i .u8, .i .u8, .i .u8, .i .u8, .i .u8, .i .u8, .i .u8, .i .u8, .i .u8, .i .u8, .i .u8, .i .u8, .i .u8, .i .u8, .i .u8, .i .u8, .i .u8, .i .u8, .i .u8, .i .u8, .i .u8, .i .u8, .i .u8, .i .u8, .i .u8, .i .u8, .i .u8, .i .u8, .i .u8, .i .u8, .i .u8, .i .u8, .i .u8, .i .u8, .i .u8, .i .u8, .i .u8] (.tmp 185) (.tmp 186), none⟩]) (.clr [186, 185, 22, 20])) (.cond (.tmp 187) (.seq (.clr [187, 19, 18, 7, 2, 1]) (.seq (.region [⟨some 6, .move (.cst (.bool false)), none⟩]) .ret)) (.seq (.clr [187]) .skip))))))) (.seq (.region [⟨some 158, .move (.tmp 19), none⟩, ⟨some 159, .bin .add (.tmp 158) (.cst (.int .i64 1)), none⟩, ⟨some 19, .move (.tmp 159), none⟩]) (.clr [159, 158]))))))) (.seq (.region [⟨some 6, .move (.cst (.bool true)), none⟩]) .ret)))))))))))))), res := [.tmp 6] }
def am8 : AFunc := { nargs := 0, nt := 283, sites := 5, mode := .pure, body := .seq (.seq (.region [⟨some 0, .move (.cst (.bool false)), none⟩]) (.clr [0])) (.seq (.seq (.region [⟨some 45, .call 23 [.cst (.int .u8 115)], none⟩, ⟨some 46, .call 23 [.cst (.int .u8 116)], none⟩, ⟨some 1, .allocz 0 [.int .u8 0, .int .u8 0, .int .u8 0, .int .u8 0, .int .u8 0, .int .u8 0, .int .u8 0, .int .u8 0, .int .u8 0, .int .u8 0, .int .u8 0, .int .u8 0, .int .u8 0, .int .u8 0, .int .u8 0, .int .u8 0, .int .u8 0, .int .u8 0, .int .u8 0, .int .u8 0, .int .u8 0, .int .u8 0, .int .u8 0, .int .u8 0, .int .u8 0, .int .u8 0, .int .u8 0, .int .u8 0, .int .u8 0, .int .u8 0, .int .u8 0, .int .u8 0, .int .u8 0, .int .u8 0, .int .u8 0, .int .u8 0, .int .u8 0, .int .u8 0, .int .u8 0, .int .u8 0, .int .u8 0, .int .u8 0, .int .u8 0, .int .u8 0, .int .u8 0, .int .u8 0, .int .u8 0, .int .u8 0, .int .u8 0, .int .u8 0, .int .u8 0, .int .u8 0, .int .u8 0, .int .u8 0, .int .u8 0, .int .u8 0, .int .u8 0, .int .u8 0, .int .u8 0, .int .u8 0, .int .u8 0, .int .u8 0, .int .u8 0, .int .u8 0], none⟩, ⟨some 2, .allocz 1 [.int .u8 0, .int .u8 0, .int .u8 0, .int .u8 0, .int .u8 0, .int .u8 0, .int .u8 0, .int .u8 0, .int .u8 0, .int .u8 0, .int .u8 0, .int .u8 0, .int .u8 0, .int .u8 0, .int .u8 0, .int .u8 0, .int .u8 0, .int .u8 0, .int .u8 0, .int .u8 0, .int .u8 0, .int .u8 0, .int .u8 0, .int .u8 0, .int .u8 0, .int .u8 0, .int .u8 0, .int .u8 0, .int .u8 0, .int .u8 0, .int .u8 0, .int .u8 0, .int .u8 0, .int .u8 0, .int .u8 0, .int .u8 0, .int .u8 0, .int .u8 0, .int .u8 0, .int .u8 0, .int .u8 0, .int .u8 0, .int .u8 0, .int .u8 0, .int .u8 0, .int .u8 0, .int .u8 0, .int .u8 0, .int .u8 0, .int .u8 0, .int .u8 0, .int .u8 0, .int .u8 0, .int .u8 0, .int .u8 0, .int .u8 0, .int .u8 0, .int .u8 0, .int .u8 0, .int .u8 0, .int .u8 0, .int .u8 0, .int .u8 0, .int .u8 0], none⟩, ⟨none, .store 64 (.tmp 1) (.tmp 45), none⟩, ⟨none, .store 64 (.tmp 2) (.tmp 46), none⟩]) (.clr [46, 45])) (.seq (.seq (.region [⟨some 48, .call 15 [.cst (.int .i64 0), .cst (.int .i64 1)], none⟩, ⟨some 47, .move (.tmp 48), none⟩, ⟨some 49, .extract (.tmp 47) 0, none⟩, ⟨some 50, .extract (.tmp 47) 1, none⟩, ⟨some 3, .move (.tmp 49), none⟩, ⟨some 4, .move (.tmp 50), none⟩]) (.clr [50, 49, 48, 47, 3])) (.seq (.seq (.region [⟨some 52, .call 15 [.cst (.int .i64 4097), .cst (.int .i64 1)], none⟩, ⟨some 51, .move (.tmp 52), none⟩, ⟨some 53, .extract (.tmp 51) 0, none⟩, ⟨some 54, .extract (.tmp 51) 1, none⟩, ⟨some 5, .move (.tmp 53), none⟩, ⟨some 6, .move (.tmp 54), none⟩]) (.clr [54, 53, 52, 51, 5])) (.seq (.seq (.region [⟨some 56, .call 15 [.cst (.int .i64 4), .cst (.int .i64 9)], none⟩, ⟨some 55, .move (.tmp 56), none⟩, ⟨some 57, .extract (.tmp 55) 0, none⟩, ⟨some 58, .extract (.tmp 55) 1, none⟩, ⟨some 7, .move (.tmp 57), none⟩, ⟨some 8, .move (.tmp 58), none⟩]) (.clr [58, 57, 56, 55, 7])) (.seq (.seq (.region [⟨some 60, .call 15 [.cst (.int .i64 4), .cst (.int .i64 2)], none⟩, ⟨some 59, .move (.tmp 60), none⟩, ⟨some 61, .extract (.tmp 59) 0, none⟩, ⟨some 62, .extract (.tmp 59) 1, none⟩, ⟨some 9, .move (.tmp 61), none⟩, ⟨some 10, .move (.tmp 62), none⟩]) (.clr [62, 61, 60, 59])) (.seq (.seq (.region [⟨some 64, .move (.tmp 9), none⟩, ⟨some 65, .call 27 [.tmp 64, .cst (.int .i64 0)], none⟩, ⟨some 63, .move (.tmp 65), none⟩, ⟨some 66, .extract (.tmp 63) 0, none⟩, ⟨some 67, .extract (.tmp 63) 1, none⟩, ⟨some 11, .move (.tmp 66), none⟩, ⟨some 12, .move (.tmp 67), none⟩]) (.clr [67, 66, 65, 64, 63, 11])) (.seq (.seq (.region [⟨some 69, .move (.tmp 9), none⟩, ⟨some 70, .call 27 [.tmp 69, .cst (.int .i64 0)], none⟩, ⟨some 68, .move (.tmp 70), none⟩, ⟨some 71, .extract (.tmp 68) 0, none⟩, ⟨some 72, .extract (.tmp 68) 1, none⟩, ⟨some 13, .move (.tmp 71), none⟩, ⟨some 14, .move (.tmp 72), none⟩]) (.clr [72, 71, 70, 69, 68])) (.seq (.seq (.draw [(⟨some 73, .move (.tmp 9), none⟩, []), (⟨some 74, .load (some 64) (.tmp 1), none⟩, []), (⟨some 75, .bslice [.int .u8 0, .int .u8 0, .int .u8 0, .int .u8 0, .int .u8 0, .int .u8 0, .int .u8 0, .int .u8 0, .int .u8 0, .int .u8 0, .int .u8 0, .int .u8 0, .int .u8 0, .int .u8 0, .int .u8 0, .int .u8 0, .int .u8 0, .int .u8 0, .int .u8 0, .int .u8 0, .int .u8 0, .int .u8 0, .int .u8 0, .int .u8 0, .int .u8 0, .int .u8 0, .int .u8 0, .int .u8 0, .int .u8 0, .int .u8 0, .int .u8 0, .int .u8 0, .int .u8 0, .int .u8 0, .int .u8 0, .int .u8 0, .int .u8 0, .int .u8 0, .int .u8 0, .int .u8 0, .int .u8 0, .int .u8 0, .int .u8 0, .int .u8 0, .int .u8 0, .int .u8 0, .int .u8 0, .int .u8 0, .int .u8 0, .int .u8 0, .int .u8 0, .int .u8 0, .int .u8 0, .int .u8 0, .int .u8 0, .int .u8 0, .int .u8 0, .int .u8 0, .int .u8 0, .int .u8 0, .int .u8 0, .int .u8 0, .int .u8 0, .int .u8 0] 1 64 [(0, 64, .tmp 74)], none⟩, []), (⟨some 76, .call 22 [.tmp 73, .cst (.int .i64 0), .cst (.int .i64 1), .cst (.int .i64 0), .tmp 75], none⟩, []), (⟨some 77, .move (.tmp 9), none⟩, []), (⟨some 78, .load (some 64) (.tmp 1), none⟩, [3]), (⟨some 79, .bslice [.int .u8 0, .int .u8 0, .int .u8 0, .int .u8 0, .int .u8 0, .int .u8 0, .int .u8 0, .int .u8 0, .int .u8 0, .int .u8 0, .int .u8 0, .int .u8 0, .int .u8 0, .int .u8 0, .int .u8 0, .int .u8 0, .int .u8 0, .int .u8 0, .int .u8 0, .int .u8 0, .int .u8 0, .int .u8 0, .int .u8 0, .int .u8 0, .int .u8 0, .int .u8 0, .int .u8 0, .int .u8 0, .int .u8 0, .int .u8 0, .int .u8 0, .int .u8 0, .int .u8 0, .int .u8 0, .int .u8 0, .int .u8 0, .int .u8 0, .int .u8 0, .int .u8 0, .int .u8 0, .int .u8 0, .int .u8 0, .int .u8 0, .int .u8 0, .int .u8 0, .int .u8 0, .int .u8 0, .int .u8 0, .int .u8 0, .int .u8 0, .int .u8 0, .int .u8 0, .int .u8 0, .int .u8 0, .int .u8 0, .int .u8 0, .int .u8 0, .int .u8 0, .int .u8 0, .int .u8 0, .int .u8 0, .int .u8 0, .int .u8 0, .int .u8 0] 1 64 [(0, 64, .tmp 78)], none⟩, []), (⟨some 80, .call 22 [.tmp 77, .cst (.int .i64 0), .cst (.int .i64 3), .cst (.int .i64 0), .tmp 79], none⟩, []), (⟨some 81, .move (.tmp 9), none⟩, []), (⟨some 82, .load (some 64) (.tmp 1), none⟩, [3, 7]), (⟨some 83, .load (some 64) (.tmp 2), none⟩, [3, 7]), (⟨some 84, .bslice [.int .u8 0, .int .u8 0, .int .u8 0, .int .u8 0, .int .u8 0, .int .u8 0, .int .u8 0, .int .u8 0, .int .u8 0, .int .u8 0, .int .u8 0, .int .u8 0, .int .u8 0, .int .u8 0, .int .u8 0, .int .u8 0, .int .u8 0, .int .u8 0, .int .u8 0, .int .u8 0, .int .u8 0, .int .u8 0, .int .u8 0, .int .u8 0, .int .u8 0, .int .u8 0, .int .u8 0, .int .u8 0, .int .u8 0, .int .u8 0, .int .u8 0, .int .u8 0, .int .u8 0, .int .u8 0, .int .u8 0, .int .u8 0, .int .u8 0, .int .u8 0, .int .u8 0, .int .u8 0, .int .u8 0, .int .u8 0, .int .u8 0, .int .u8 0, .int .u8 0, .int .u8 0, .int .u8 0, .int .u8 0, .int .u8 0, .int .u8 0, .int .u8 0, .int .u8 0, .int .u8 0, .int .u8 0, .int .u8 0, .int .u8 0, .int .u8 0, .int .u8 0, .int .u8 0, .int .u8 0, .int .u8 0, .int .u8 0, .int .u8 0, .int .u8 0, .int .u8 0, .int .u8 0, .int .u8 0, .int .u8 0, .int .u8 0, .int .u8 0, .int .u8 0, .int .u8 0, .int .u8 0, .int .u8 0, .int .u8 0, .int .u8 0, .int .u8 0, .int .u8 0, .int .u8 0, .int .u8 0, .int .u8 0, .int .u8 0, .int .u8 0, .int .u8 0, .int .u8 0, .int .u8 0, .int .u8 0, .int .u8 0, .int .u8 0, .int .u8 0, .int .u8 0, .int .u8 0, .int .u8 0, .int .u8 0, .int .u8 0, .int .u8 0, .int .u8 0, .int .u8 0, .int .u8 0, .int .u8 0, .int .u8 0, .int .u8 0, .int .u8 0, .int .u8 0, .int .u8 0, .int .u8 0, .int .u8 0, .int .u8 0, .int .u8 0, .int .u8 0, .int .u8 0, .int .u8 0, .int .u8 0, .int .u8 0, .int .u8 0, .int .u8 0, .int .u8 0, .int .u8 0, .int .u8 0, .int .u8 0, .int .u8 0, .int .u8 0, .int .u8 0, .int .u8 0, .int .u8 0, .int .u8 0, .int .u8 0, .int .u8 0] 2 64 [(0, 64, .tmp 82), (64, 64, .tmp 83)], none⟩, []), (⟨some 85, .call 22 [.tmp 81, .cst (.int .i64 0), .cst (.int .i64 2), .cst (.int .i64 3), .tmp 84], none⟩, []), (⟨some 86, .move (.tmp 9), none⟩, []), (⟨some 87, .load (some 64) (.tmp 1), none⟩, [3, 7, 12]), (⟨some 88, .load (some 64) (.tmp 2), none⟩, [3, 7, 12]), (⟨some 89, .bslice [.int .u8 0, .int .u8 0, .int .u8 0, .int .u8 0, .int .u8 0, .int .u8 0, .int .u8 0, .int .u8 0, .int .u8 0, .int .u8 0, .int .u8 0, .int .u8 0, .int .u8 0, .int .u8 0, .int .u8 0, .int .u8 0, .int .u8 0, .int .u8 0, .int .u8 0, .int .u8 0, .int .u8 0, .int .u8 0, .int .u8 0, .int .u8 0, .int .u8 0, .int .u8 0, .int .u8 0, .int .u8 0, .int .u8 0, .int .u8 0, .int .u8 0, .int .u8 0, .int .u8 0, .int .u8 0, .int .u8 0, .int .u8 0, .int .u8 0, .int .u8 0, .int .u8 0, .int .u8 0, .int .u8 0, .int .u8 0, .int .u8 0, .int .u8 0, .int .u8 0, .int .u8 0, .int .u8 0, .int .u8 0, .int .u8 0, .int .u8 0, .int .u8 0, .int .u8 0, .int .u8 0, .int .u8 0, .int .u8 0, .int .u8 0, .int .u8 0, .int .u8 0, .int .u8 0, .int .u8 0, .int .u8 0, .int .u8 0, .int .u8 0, .int .u8 0, .int .u8 0, .int .u8 0, .int .u8 0, .int .u8 0, .int .u8 0, .int .u8 0, .int .u8 0, .int .u8 0, .int .u8 0, .int .u8 0, .int .u8 0, .int .u8 0, .int .u8 0, .int .u8 0, .int .u8 0, .int .u8 0, .int .u8 0, .int .u8 0, .int .u8 0, .int .u8 0, .int .u8 0, .int .u8 0, .int .u8 0, .int .u8 0, .int .u8 0, .int .u8 0, .int .u8 0, .int .u8 0, .int .u8 0, .int .u8 0, .int .u8 0, .int .u8 0, .int .u8 0, .int .u8 0, .int .u8 0, .int .u8 0, .int .u8 0, .int .u8 0, .int .u8 0, .int .u8 0, .int .u8 0, .int .u8 0, .int .u8 0, .int .u8 0, .int .u8 0, .int .u8 0, .int .u8 0, .int .u8 0, .int .u8 0, .int .u8 0, .int .u8 0, .int .u8 0, .int .u8 0, .int .u8 0, .int .u8 0, .int .u8 0, .int .u8 0, .int .u8 0, .int .u8 0, .int .u8 0, .int .u8 0, .int .u8 0, .int .u8 0, .int .u8 0] 2 64 [(0, 64, .tmp 87), (64, 64, .tmp 88)], none⟩, []), (⟨some 90, .call 22 [.tmp 86, .cst (.int .i64 0), .cst (.int .i64 2), .cst (.int .i64 2), .tmp 89], none⟩, []), (⟨some 15, .move (.tmp 76), none⟩, []), (⟨some 16, .move (.tmp 80), none⟩, []), (⟨some 17, .move (.tmp 85), none⟩, []), (⟨some 18, .move (.tmp 90), none⟩, [])]) (.clr [90, 89, 88, 87, 86, 85, 84, 83, 82, 81, 80, 79, 78, 77, 76, 75, 74, 73])) (.seq (.seq (.draw [(⟨some 91, .move (.tmp 9), none⟩, []), (⟨some 92, .call 25 [.tmp 91, .cst (.int .i64 1)], none⟩, []), (⟨some 93, .move (.tmp 9), none⟩, []), (⟨some 94, .load (some 64) (.tmp 2), none⟩, [1]), (⟨some 95, .load (some 64) (.tmp 2), none⟩, [1]), (⟨some 96, .bslice [.int .u8 0, .int .u8 0, .int .u8 0, .int .u8 0, .int .u8 0, .int .u8 0, .int .u8 0, .int .u8 0, .int .u8 0, .int .u8 0, .int .u8 0, .int .u8 0, .int .u8 0, .int .u8 0, .int .u8 0, .int .u8 0, .int .u8 0, .int .u8 0, .int .u8 0, .int .u8 0, .int .u8 0, .int .u8 0, .int .u8 0, .int .u8 0, .int .u8 0, .int .u8 0, .int .u8 0, .int .u8 0, .int .u8 0, .int .u8 0, .int .u8 0, .int .u8 0, .int .u8 0, .int .u8 0, .int .u8 0, .int .u8 0, .int .u8 0, .int .u8 0, .int .u8 0, .int .u8 0, .int .u8 0, .int .u8 0, .int .u8 0, .int .u8 0, .int .u8 0, .int .u8 0, .int .u8 0, .int .u8 0, .int .u8 0, .int .u8 0, .int .u8 0, .int .u8 0, .int .u8 0, .int .u8 0, .int .u8 0, .int .u8 0, .int .u8 0, .int .u8 0, .int .u8 0, .int .u8 0, .int .u8 0, .int .u8 0, .int .u8 0, .int .u8 0, .int .u8 0, .int .u8 0, .int .u8 0, .int .u8 0, .int .u8 0, .int .u8 0, .int .u8 0, .int .u8 0, .int .u8 0, .int .u8 0, .int .u8 0, .int .u8 0, .int .u8 0, .int .u8 0, .int .u8 0, .int .u8 0, .int .u8 0, .int .u8 0, .int .u8 0, .int .u8 0, .int .u8 0, .int .u8 0, .int .u8 0, .int .u8 0, .int .u8 0, .int .u8 0, .int .u8 0, .int .u8 0, .int .u8 0, .int .u8 0, .int .u8 0, .int .u8 0, .int .u8 0, .int .u8 0, .int .u8 0, .int .u8 0, .int .u8 0, .int .u8 0, .int .u8 0, .int .u8 0, .int .u8 0, .int .u8 0, .int .u8 0, .int .u8 0, .int .u8 0, .int .u8 0, .int .u8 0, .int .u8 0, .int .u8 0, .int .u8 0, .int .u8 0, .int .u8 0, .int .u8 0, .int .u8 0, .int .u8 0, .int .u8 0, .int .u8 0, .int .u8 0, .int .u8 0, .int .u8 0, .int .u8 0, .int .u8 0, .int .u8 0, .int .u8 0] 2 64 [(0, 64, .tmp 94), (64, 64, .tmp 95)], none⟩, []), (⟨some 97, .call 22 [.tmp 93, .cst (.int .i64 0), .cst (.int .i64 2), .cst (.int .i64 0), .tmp 96], none⟩, []), (⟨some 19, .move (.tmp 92), none⟩, []), (⟨some 20, .move (.tmp 97), none⟩, [])]) (.clr [97, 96, 95, 94, 93, 92, 91])) (.seq (.seq (.region [⟨some 98, .move (.tmp 9), none⟩, ⟨some 99, .load (some 64) (.tmp 1), none⟩, ⟨some 100, .bslice [.int .u8 0, .int .u8 0, .int .u8 0, .int .u8 0, .int .u8 0, .int .u8 0, .int .u8 0, .int .u8 0, .int .u8 0, .int .u8 0, .int .u8 0, .int .u8 0, .int .u8 0, .int .u8 0, .int .u8 0, .int .u8 0, .int .u8 0, .int .u8 0, .int .u8 0, .int .u8 0, .int .u8 0, .int .u8 0, .int .u8 0, .int .u8 0, .int .u8 0, .int .u8 0, .int .u8 0, .int .u8 0, .int .u8 0, .int .u8 0, .int .u8 0, .int .u8 0, .int .u8 0, .int .u8 0, .int .u8 0, .int .u8 0, .int .u8 0, .int .u8 0, .int .u8 0, .int .u8 0, .int .u8 0, .int .u8 0, .int .u8 0, .int .u8 0, .int .u8 0, .int .u8 0, .int .u8 0, .int .u8 0, .int .u8 0, .int .u8 0, .int .u8 0, .int .u8 0, .int .u8 0, .int .u8 0, .int .u8 0, .int .u8 0, .int .u8 0, .int .u8 0, .int .u8 0, .int .u8 0, .int .u8 0, .int .u8 0, .int .u8 0, .int .u8 0] 1 64 [(0, 64, .tmp 99)], none⟩, ⟨some 101, .call 22 [.tmp 98, .cst (.int .i64 0), .cst (.int .i64 2), .cst (.int .i64 1), .tmp 100], none⟩, ⟨some 21, .move (.tmp 101), none⟩]) (.clr [101, 100, 99, 98])) (.seq (.seq (.region [⟨some 103, .move (.tmp 9), none⟩, ⟨some 104, .load (some 64) (.tmp 2), none⟩, ⟨some 105, .load (some 64) (.tmp 1), none⟩, ⟨some 106, .call 29 [.tmp 103, .cst (.int .i64 0), .cst (.int .i64 2), .cst (.int .i64 0), .tmp 104, .tmp 105], none⟩, ⟨some 102, .move (.tmp 106), none⟩, ⟨some 107, .extract (.tmp 102) 0, none⟩, ⟨some 108, .extract (.tmp 102) 1, none⟩, ⟨some 22, .move (.tmp 107), none⟩, ⟨some 23, .move (.tmp 108), none⟩]) (.clr [108, 107, 106, 105, 104, 103, 102, 23])) (.seq (.seq (.region [⟨some 110, .move (.tmp 9), none⟩, ⟨some 111, .call 27 [.tmp 110, .cst (.int .i64 1)], none⟩, ⟨some 109, .move (.tmp 111), none⟩, ⟨some 112, .extract (.tmp 109) 0, none⟩, ⟨some 113, .extract (.tmp 109) 1, none⟩, ⟨some 24, .move (.tmp 112), none⟩, ⟨some 25, .move (.tmp 113), none⟩]) (.clr [113, 112, 111, 110, 109, 25])) (.seq (.seq (.region [⟨some 114, .move (.tmp 9), none⟩, ⟨some 115, .call 20 [.tmp 114], none⟩, ⟨some 26, .move (.tmp 115), none⟩]) (.clr [115, 114])) (.seq (.seq (.region [⟨some 117, .move (.tmp 9), none⟩, ⟨some 118, .call 19 [.tmp 117, .cst (.int .i64 1)], none⟩, ⟨some 116, .move (.tmp 118), none⟩, ⟨some 119, .extract (.tmp 116) 0, none⟩, ⟨some 120, .extract (.tmp 116) 1, none⟩, ⟨some 27, .move (.tmp 119), none⟩, ⟨some 28, .move (.tmp 120), none⟩]) (.clr [120, 119, 118, 117, 116, 28])) (.seq (.seq (.seq (.region [⟨some 121, .move (.tmp 21), none⟩, ⟨some 122, .call 11 [.tmp 121], none⟩, ⟨some 123, .bin .neq (.tmp 122) (.cst (.int .i64 0)), none⟩, ⟨some 124, .move (.tmp 123), none⟩, ⟨some 125, .move (.tmp 22), some (124, false)⟩, ⟨some 126, .un .not (.tmp 125), some (124, false)⟩, ⟨some 127, .pick (.tmp 124) (.cst (.bool true)) (.tmp 126), none⟩, ⟨some 128, .move (.tmp 127), none⟩, ⟨some 129, .move (.tmp 24), some (128, false)⟩, ⟨some 130, .bin .neq (.tmp 129) (.cst (.int .i64 1)), some (128, false)⟩, ⟨some 131, .pick (.tmp 128) (.cst (.bool true)) (.tmp 130), none⟩, ⟨some 132, .move (.tmp 131), none⟩, ⟨some 133, .move (.tmp 27), some (132, false)⟩, ⟨some 134, .bin .neq (.tmp 133) (.cst (.int .i64 0)), some (132, false)⟩, ⟨some 135, .pick (.tmp 132) (.cst (.bool true)) (.tmp 134), none⟩, ⟨some 136, .move (.tmp 135), none⟩, ⟨some 137, .move (.tmp 9), some (136, false)⟩, ⟨some 138, .call 20 [.tmp 137], some (136, false)⟩, ⟨some 139, .un .not (.tmp 138), some (136, false)⟩, ⟨some 140, .pick (.tmp 136) (.cst (.bool true)) (.tmp 139), none⟩]) (.clr [139, 138, 137, 136, 135, 134, 133, 132, 131, 130, 129, 128, 127, 126, 125, 124, 123, 122, 121, 27, 24, 22, 21])) (.cond (.tmp 140) (.seq (.clr [140, 26, 20, 19, 18, 17, 16, 15, 14, 13, 12, 10, 9, 8, 6, 4, 2, 1]) (.seq (.region [⟨some 0, .move (.cst (.bool false)), none⟩]) .ret)) (.seq (.clr [140]) .skip))) (.seq (.seq (.region [⟨some 142, .move (.tmp 9), none⟩, ⟨some 143, .call 26 [.tmp 142, .cst (.int .i64 0)], none⟩, ⟨some 141, .move (.tmp 143), none⟩, ⟨some 144, .extract (.tmp 141) 0, none⟩, ⟨some 145, .extract (.tmp 141) 1, none⟩, ⟨some 29, .allocz 2 [.int .u8 0, .int .u8 0, .int .u8 0, .int .u8 0, .int .u8 0, .int .u8 0, .int .u8 0, .int .u8 0, .int .u8 0, .int .u8 0, .int .u8 0, .int .u8 0, .int .u8 0, .int .u8 0, .int .u8 0, .int .u8 0, .int .u8 0, .int .u8 0, .int .u8 0, .int .u8 0, .int .u8 0, .int .u8 0, .int .u8 0, .int .u8 0, .int .u8 0, .int .u8 0, .int .u8 0, .int .u8 0, .int .u8 0, .int .u8 0, .int .u8 0, .int .u8 0, .int .u8 0, .int .u8 0, .int .u8 0, .int .u8 0, .int .u8 0, .int .u8 0, .int .u8 0, .int .u8 0, .int .u8 0, .int .u8 0, .int .u8 0, .int .u8 0, .int .u8 0, .int .u8 0, .int .u8 0, .int .u8 0, .int .u8 0, .int .u8 0, .int .u8 0, .int .u8 0, .int .u8 0, .int .u8 0, .int .u8 0, .int .u8 0, .int .u8 0, .int .u8 0, .int .u8 0, .int .u8 0, .int .u8 0, .int .u8 0, .int .u8 0, .int .u8 0], none⟩, ⟨none, .store 64 (.tmp 29) (.tmp 144), none⟩, ⟨some 30, .move (.tmp 145), none⟩]) (.clr [145, 144, 143, 142, 141, 30])) (.seq (.seq (.region [⟨some 147, .move (.tmp 9), none⟩, ⟨some 148, .call 26 [.tmp 147, .cst (.int .i64 1)], none⟩, ⟨some 146, .move (.tmp 148), none⟩, ⟨some 149, .extract (.tmp 146) 0, none⟩, ⟨some 150, .extract (.tmp 146) 1, none⟩, ⟨some 31, .allocz 3 [.int .u8 0, .int .u8 0, .int .u8 0, .int .u8 0, .int .u8 0, .int .u8 0, .int .u8 0, .int .u8 0, .int .u8 0, .int .u8 0, .int .u8 0, .int .u8 0, .int .u8 0, .int .u8 0, .int .u8 0, .int .u8 0, .int .u8 0, .int .u8 0, .int .u8 0, .int .u8 0, .int .u8 0, .int .u8 0, .int .u8 0, .int .u8 0, .int .u8 0, .int .u8 0, .int .u8 0, .int .u8 0, .int .u8 0, .int .u8 0, .int .u8 0, .int .u8 0, .int .u8 0, .int .u8 0, .int .u8 0, .int .u8 0, .int .u8 0, .int .u8 0, .int .u8 0, .int .u8 0, .int .u8 0, .int .u8 0, .int .u8 0, .int .u8 0, .int .u8 0, .int .u8 0, .int .u8 0, .int .u8 0, .int .u8 0, .int .u8 0, .int .u8 0, .int .u8 0, .int .u8 0, .int .u8 0, .int .u8 0, .int .u8 0, .int .u8 0, .int .u8 0, .int .u8 0, .int .u8 0, .int .u8 0, .int .u8 0, .int .u8 0, .int .u8 0], none⟩, ⟨none, .store 64 (.tmp 31) (.tmp 149), none⟩, ⟨some 32, .move (.tmp 150), none⟩]) (.clr [150, 149, 148, 147, 146, 32])) (.seq (.seq (.region [⟨some 152, .move (.tmp 9), none⟩, ⟨some 153, .load (some 64) (.tmp 1), none⟩, ⟨some 154, .load (some 64) (.tmp 2), none⟩, ⟨some 155, .call 29 [.tmp 152, .cst (.int .i64 0), .cst (.int .i64 2), .cst (.int .i64 0), .tmp 153, .tmp 154], none⟩, ⟨some 151, .move (.tmp 155), none⟩, ⟨some 156, .extract (.tmp 151) 0, none⟩, ⟨some 157, .extract (.tmp 151) 1, none⟩, ⟨some 33, .move (.tmp 156), none⟩, ⟨some 34, .move (.tmp 157), none⟩]) (.clr [157, 156, 155, 154, 153, 152, 151, 34])) (.seq (.seq (.region [⟨some 159, .move (.tmp 9), none⟩, ⟨some 160, .load (some 64) (.tmp 2), none⟩, ⟨some 161, .load (some 64) (.tmp 1), none⟩, ⟨some 162, .call 29 [.tmp 159, .cst (.int .i64 0), .cst (.int .i64 2), .cst (.int .i64 0), .tmp 160, .tmp 161], none⟩, ⟨some 158, .move (.tmp 162), none⟩, ⟨some 163, .extract (.tmp 158) 0, none⟩, ⟨some 164, .extract (.tmp 158) 1, none⟩, ⟨some 35, .move (.tmp 163), none⟩, ⟨some 36, .move (.tmp 164), none⟩]) (.clr [164, 163, 162, 161, 160, 159, 158, 36])) (.seq (.seq (.region [⟨some 166, .move (.tmp 9), none⟩, ⟨some 167, .call 26 [.tmp 166, .cst (.int .i64 0)], none⟩, ⟨some 165, .move (.tmp 167), none⟩, ⟨some 168, .extract (.tmp 165) 0, none⟩, ⟨some 169, .extract (.tmp 165) 1, none⟩, ⟨some 37, .allocz 4 [.int .u8 0, .int .u8 0, .int .u8 0, .int .u8 0, .int .u8 0, .int .u8 0, .int .u8 0, .int .u8 0, .int .u8 0, .int .u8 0, .int .u8 0, .int .u8 0, .int .u8 0, .int .u8 0, .int .u8 0, .int .u8 0, .int .u8 0, .int .u8 0, .int .u8 0, .int .u8 0, .int .u8 0, .int .u8 0, .int .u8 0, .int .u8 0, .int .u8 0, .int .u8 0, .int .u8 0, .int .u8 0, .int .u8 0, .int .u8 0, .int .u8 0, .int .u8 0, .int .u8 0, .int .u8 0, .int .u8 0, .int .u8 0, .int .u8 0, .int .u8 0, .int .u8 0, .int .u8 0, .int .u8 0, .int .u8 0, .int .u8 0, .int .u8 0, .int .u8 0, .int .u8 0, .int .u8 0, .int .u8 0, .int .u8 0, .int .u8 0, .int .u8 0, .int .u8 0, .int .u8 0, .int .u8 0, .int .u8 0, .int .u8 0, .int .u8 0, .int .u8 0, .int .u8 0, .int .u8 0, .int .u8 0, .int .u8 0, .int .u8 0, .int .u8 0], none⟩, ⟨none, .store 64 (.tmp 37) (.tmp 168), none⟩, ⟨some 38, .move (.tmp 169), none⟩]) (.clr [169, 168, 167, 166, 165, 38])) (.seq (.seq (.draw [(⟨some 170, .move (.tmp 9), none⟩, []), (⟨some 171, .call 24 [.tmp 170, .cst (.int .i64 1), .cst (.int .i64 0), .cst (.int .i64 0), .cst (.int .i64 2)], none⟩, []), (⟨some 172, .move (.tmp 9), none⟩, []), (⟨some 173, .load (some 64) (.tmp 2), none⟩, [1]), (⟨some 174, .bslice [.int .u8 0, .int .u8 0, .int .u8 0, .int .u8 0, .int .u8 0, .int .u8 0, .int .u8 0, .int .u8 0, .int .u8 0, .int .u8 0, .int .u8 0, .int .u8 0, .int .u8 0, .int .u8 0, .int .u8 0, .int .u8 0, .int .u8 0, .int .u8 0, .int .u8 0, .int .u8 0, .int .u8 0, .int .u8 0, .int .u8 0, .int .u8 0, .int .u8 0, .int .u8 0, .int .u8 0, .int .u8 0, .int .u8 0, .int .u8 0, .int .u8 0, .int .u8 0, .int .u8 0, .int .u8 0, .int .u8 0, .int .u8 0, .int .u8 0, .int .u8 0, .int .u8 0, .int .u8 0, .int .u8 0, .int .u8 0, .int .u8 0, .int .u8 0, .int .u8 0, .int .u8 0, .int .u8 0, .int .u8 0, .int .u8 0, .int .u8 0, .int .u8 0, .int .u8 0, .int .u8 0, .int .u8 0, .int .u8 0, .int .u8 0, .int .u8 0, .int .u8 0, .int .u8 0, .int .u8 0, .int .u8 0, .int .u8 0, .int .u8 0, .int .u8 0] 1 64 [(0, 64, .tmp 173)], none⟩, []), (⟨some 175, .call 22 [.tmp 172, .cst (.int .i64 0), .cst (.int .i64 2), .cst (.int .i64 0), .tmp 174], none⟩, []), (⟨some 176, .move (.tmp 9), none⟩, []), (⟨some 177, .call 24 [.tmp 176, .cst (.int .i64 0), .cst (.int .i64 2), .cst (.int .i64 1), .cst (.int .i64 9)], none⟩, []), (⟨some 178, .move (.tmp 9), none⟩, []), (⟨some 179, .call 24 [.tmp 178, .cst (.int .i64 1), .cst (.int .i64 0), .cst (.int .i64 0), .cst (.int .i64 1)], none⟩, []), (⟨some 39, .move (.tmp 171), none⟩, []), (⟨some 40, .move (.tmp 175), none⟩, []), (⟨some 41, .move (.tmp 177), none⟩, []), (⟨some 42, .move (.tmp 179), none⟩, [])]) (.clr [179, 178, 177, 176, 175, 174, 173, 172, 171, 170])) (.seq (.seq (.region [⟨some 181, .move (.tmp 9), none⟩, ⟨some 182, .call 19 [.tmp 181, .cst (.int .i64 0)], none⟩, ⟨some 180, .move (.tmp 182), none⟩, ⟨some 183, .extract (.tmp 180) 0, none⟩, ⟨some 184, .extract (.tmp 180) 1, none⟩, ⟨some 43, .move (.tmp 183), none⟩, ⟨some 44, .move (.tmp 184), none⟩]) (.clr [184, 183, 182, 181, 180, 44, 9])) (.seq (.seq (.region [⟨some 185, .move (.tmp 4), none⟩, ⟨some 186, .call 11 [.tmp 185], none⟩, ⟨some 187, .bin .eql (.tmp 186) (.cst (.int .i64 2)), none⟩, ⟨some 188, .move (.tmp 187), none⟩, ⟨some 189, .move (.tmp 6), some (188, true)⟩, ⟨some 190, .call 11 [.tmp 189], some (188, true)⟩, ⟨some 191, .bin .eql (.tmp 190) (.cst (.int .i64 2)), some (188, true)⟩, ⟨some 192, .pick (.tmp 188) (.tmp 191) (.cst (.bool false)), none⟩, ⟨some 193, .move (.tmp 192), none⟩, ⟨some 194, .move (.tmp 8), some (193, true)⟩, ⟨some 195, .call 11 [.tmp 194], some (193, true)⟩, ⟨some 196, .bin .eql (.tmp 195) (.cst (.int .i64 2)), some (193, true)⟩, ⟨some 197, .pick (.tmp 193) (.tmp 196) (.cst (.bool false)), none⟩, ⟨some 198, .move (.tmp 197), none⟩, ⟨some 199, .move (.tmp 10), some (198, true)⟩, ⟨some 200, .call 11 [.tmp 199], some (198, true)⟩, ⟨some 201, .move (.tmp 12), some (198, true)⟩, ⟨some 202, .call 11 [.tmp 201], some (198, true)⟩, ⟨some 203, .bin .add (.tmp 200) (.tmp 202), some (198, true)⟩, ⟨some 204, .move (.tmp 14), some (198, true)⟩, ⟨some 205, .call 11 [.tmp 204], some (198, true)⟩, ⟨some 206, .bin .add (.tmp 203) (.tmp 205), some (198, true)⟩, ⟨some 207, .move (.tmp 18), some (198, true)⟩, ⟨some 208, .call 11 [.tmp 207], some (198, true)⟩, ⟨some 209, .bin .add (.tmp 206) (.tmp 208), some (198, true)⟩, ⟨some 210, .move (.tmp 19), some (198, true)⟩, ⟨some 211, .call 11 [.tmp 210], some (198, true)⟩, ⟨some 212, .bin .add (.tmp 209) (.tmp 211), some (198, true)⟩, ⟨some 213, .move (.tmp 20), some (198, true)⟩, ⟨some 214, .call 11 [.tmp 213], some (198, true)⟩, ⟨some 215, .bin .add (.tmp 212) (.tmp 214), some (198, true)⟩, ⟨some 216, .move (.tmp 39), some (198, true)⟩, ⟨some 217, .call 11 [.tmp 216], some (198, true)⟩, ⟨some 218, .bin .add (.tmp 215) (.tmp 217), some (198, true)⟩, ⟨some 219, .move (.tmp 42), some (198, true)⟩, ⟨some 220, .call 11 [.tmp 219], some (198, true)⟩, ⟨some 221, .bin .add (.tmp 218) (.tmp 220), some (198, true)⟩, ⟨some 222, .bin .eql (.tmp 221) (.cst (.int .i64 0)), some (198, true)⟩, ⟨some 223, .pick (.tmp 198) (.tmp 222) (.cst (.bool false)), none⟩, ⟨some 224, .move (.tmp 223), none⟩, ⟨some 225, .move (.tmp 13), some (224, true)⟩, ⟨some 226, .bin .eql (.tmp 225) (.cst (.int .i64 2)), some (224, true)⟩, ⟨some 227, .pick (.tmp 224) (.tmp 226) (.cst (.bool false)), none⟩, ⟨some 228, .move (.tmp 227), none⟩, ⟨some 229, .move (.tmp 15), some (228, true)⟩, ⟨some 230, .call 11 [.tmp 229], some (228, true)⟩, ⟨some 231, .bin .eql (.tmp 230) (.cst (.int .i64 8)), some (228, true)⟩, ⟨some 232, .pick (.tmp 228) (.tmp 231) (.cst (.bool false)), none⟩, ⟨some 233, .move (.tmp 232), none⟩, ⟨some 234, .move (.tmp 16), some (233, true)⟩, ⟨some 235, .call 11 [.tmp 234], some (233, true)⟩, ⟨some 236, .bin .eql (.tmp 235) (.cst (.int .i64 2)), some (233, true)⟩, ⟨some 237, .pick (.tmp 233) (.tmp 236) (.cst (.bool false)), none⟩, ⟨some 238, .move (.tmp 237), none⟩, ⟨some 239, .move (.tmp 17), some (238, true)⟩, ⟨some 240, .call 11 [.tmp 239], some (238, true)⟩, ⟨some 241, .bin .eql (.tmp 240) (.cst (.int .i64 2)), some (238, true)⟩, ⟨some 242, .pick (.tmp 238) (.tmp 241) (.cst (.bool false)), none⟩, ⟨some 243, .move (.tmp 242), none⟩, ⟨some 244, .move (.tmp 26), some (243, true)⟩, ⟨some 245, .un .not (.tmp 244), some (243, true)⟩, ⟨some 246, .pick (.tmp 243) (.tmp 245) (.cst (.bool false)), none⟩, ⟨some 247, .move (.tmp 246), none⟩, ⟨some 248, .load (some 64) (.tmp 29), some (247, true)⟩, ⟨some 249, .load (some 64) (.tmp 2), some (247, true)⟩, ⟨some 250, .eqc false true [.i .u8, .i .u8, .i .u8, .i .u8, .i .u8, .i .u8, .i .u8, .i .u8, .i .u8, .i .u8, .i .u8, .i .u8, .i .u8, .i .u8, .i .u8, .i .u8, .i .u8, .i .u8, .i .u8, .i .u8, .i .u8, .i .u8, .i .u8, .i .u8, .i .u8, .i .u8, .i .u8, .i .u8, .i .u8, .i .u8, .i .u8, .i .u8, .i .u8, .i .u8, .i .u8, .i .u8, .i .u8, .i .u8, .i .u8, .i .u8, .i .u8, .i .u8, .i .u8, .i .u8, .i .u8, .i .u8, .i .u8, .i .u8, .i .u8, .i .u8, .i .u8, .i .u8, .i .u8, .i .u8, .i .u8, .i .u8, .i .u8, .i .u8, .i .u8, .i .u8, .i .u8, .i .u8, .i .u8, .i .u8] (.tmp 248) (.tmp 249), some (247, true)⟩, ⟨some 251, .pick (.tmp 247) (.tmp 250) (.cst (.bool false)), none⟩, ⟨some 252, .move (.tmp 251), none⟩, ⟨some 253, .load (some 64) (.tmp 31), some (252, true)⟩, ⟨some 254, .build [.int .u8 0, .int .u8 0, .int .u8 0, .int .u8 0, .int .u8 0, .int .u8 0, .int .u8 0, .int .u8 0, .int .u8 0, .int .u8 0, .int .u8 0, .int .u8 0, .int .u8 0, .int .u8 0, .int .u8 0, .int .u8 0, .int .u8 0, .int .u8 0, .int .u8 0, .int .u8 0, .int .u8 0, .int .u8 0, .int .u8 0, .int .u8 0, .int .u8 0, .int .u8 0, .int .u8 0, .int .u8 0, .int .u8 0, .int .u8 0, .int .u8 0, .int .u8 0, .int .u8 0, .int .u8 0, .int .u8 0, .int .u8 0, .int .u8 0, .int .u8 0, .int .u8 0, .int .u8 0, .int .u8 0, .int .u8 0, .int .u8 0, .int .u8 0, .int .u8 0, .int .u8 0, .int .u8 0, .int .u8 0, .int .u8 0, .int .u8 0, .int .u8 0, .int .u8 0, .int .u8 0, .int .u8 0, .int .u8 0, .int .u8 0, .int .u8 0, .int .u8 0, .int .u8 0, .int .u8 0, .int .u8 0, .int .u8 0, .int .u8 0, .int .u8 0] [], some (252, true)⟩, ⟨some 255, .eqc false true [.i .u8, .i .u8, .i .u8, .i .u8, .i .u8, .i .u8, .i .u8, .i .u8, .i .u8, .i .u8, .i .u8, .i .u8, .i .u8, .i .u8, .i .u8, .i .u8, .i .u8, .i .u8, .i .u8, .i .u8, .i .u8, .i .u8, .i .u8, .i .u8, .i .u8, .i .u8, .i .u8, .i .u8, .i .u8, .i .u8, .i .u8, .i .u8, .i .u8, .i .u8, .i .u8, .i .u8, .i .u8, .i .u8, .i .u8, .i .u8, .i .u8, .i .u8, .i .u8, .i .u8, .i .u8, .i .u8, .i .u8, .i .u8, .i .u8, .i .u8, .i .u8, .i .u8, .i .u8, .i .u8, .i .u8, .i .u8, .i .u8, .i .u8, .i .u8, .i .u8, .i .u8, .i .u8, .i .u8, .i .u8] (.tmp 253) (.tmp 254), some (252, true)⟩, ⟨some 256, .pick (.tmp 252) (.tmp 255) (.cst (.bool false)), none⟩, ⟨some 257, .move (.tmp 256), none⟩, ⟨some 258, .move (.tmp 33), some (257, true)⟩, ⟨some 259, .un .not (.tmp 258), some (257, true)⟩, ⟨some 260, .pick (.tmp 257) (.tmp 259) (.cst (.bool false)), none⟩, ⟨some 261, .move (.tmp 260), none⟩, ⟨some 262, .move (.tmp 35), some (261, true)⟩, ⟨some 263, .pick (.tmp 261) (.tmp 262) (.cst (.bool false)), none⟩, ⟨some 264, .move (.tmp 263), none⟩, ⟨some 265, .load (some 64) (.tmp 37), some (264, true)⟩, ⟨some 266, .load (some 64) (.tmp 1), some (264, true)⟩, ⟨some 267, .eqc false true [.i .u8, .i .u8, .i .u8, .i .u8, .i .u8, .i .u8, .i .u8, .i .u8, .i .u8, .i .u8, .i .u8, .i .u8, .i .u8, .i .u8, .i .u8, .i .u8, .i .u8, .i .u8, .i .u8, .i .u8, .i .u8, .i .u8, .i .u8, .i .u8, .i .u8, .i .u8, .i .u8, .i .u8, .i .u8, .i .u8, .i .u8, .i .u8, .i .u8, .i .u8, .i .u8, .i .u8, .i .u8, .i .u8, .i .u8, .i .u8, .i .u8, .i .u8, .i .u8, .i .u8, .i .u8, .i .u8, .i .u8, .i .u8, .i .u8, .i .u8, .i .u8, .i .u8, .i .u8, .i .u8, .i .u8, .i .u8, .i .u8, .i .u8, .i .u8, .i .u8, .i .u8, .i .u8, .i .u8, .i .u8] (.tmp 265) (.tmp 266), some (264, true)⟩, ⟨some 268, .pick (.tmp 264) (.tmp 267) (.cst (.bool false)), none⟩, ⟨some 269, .move (.tmp 268), none⟩, ⟨some 270, .move (.tmp 40), some (269, true)⟩, ⟨some 271, .call 11 [.tmp 270], some (269, true)⟩, ⟨some 272, .bin .eql (.tmp 271) (.cst (.int .i64 8)), some (269, true)⟩, ⟨some 273, .pick (.tmp 269) (.tmp 272) (.cst (.bool false)), none⟩, ⟨some 274, .move (.tmp 273), none⟩, ⟨some 275, .move (.tmp 41), some (274, true)⟩, ⟨some 276, .call 11 [.tmp 275], some (274, true)⟩, ⟨some 277, .bin .eql (.tmp 276) (.cst (.int .i64 8)), some (274, true)⟩, ⟨some 278, .pick (.tmp 274) (.tmp 277) (.cst (.bool false)), none⟩, ⟨some 279, .move (.tmp 278), none⟩, ⟨some 280, .move (.tmp 43), some (279, true)⟩, ⟨some 281, .bin .eql (.tmp 280) (.cst (.int .i64 3)), some (279, true)⟩, ⟨some 282, .pick (.tmp 279) (.tmp 281) (.cst (.bool false)), none⟩, ⟨some 0, .move (.tmp 282), none⟩]) (.clr [282, 281, 280, 279, 278, 277, 276, 275, 274, 273, 272, 271, 270, 269, 268, 267, 266, 265, 264, 263, 262, 261, 260, 259, 258, 257, 256, 255, 254, 253, 252, 251, 250, 249, 248, 247, 246, 245, 244, 243, 242, 241, 240, 239, 238, 237, 236, 235, 234, 233, 232, 231, 230, 229, 228, 227, 226, 225, 224, 223, 222, 221, 220, 219, 218, 217, 216, 215, 214, 213, 212, 211, 210, 209, 208, 207, 206, 205, 204, 203, 202, 201, 200, 199, 198, 197, 196, 195, 194, 193, 192, 191, 190, 189, 188, 187, 186, 185, 43, 42, 41, 40, 39, 37, 35, 33, 31, 29, 26, 20, 19, 18, 17, 16, 15, 14, 13, 12, 10, 8, 6, 4, 2, 1])) .ret))))))))))))))))))))))), res := [.tmp 0] }
def am9 : AFunc := { nargs := 2, nt := 57, sites := 0, mode := .keep, body := .seq (.seq (.region [⟨some 4, .move (.cst .nilp), none⟩, ⟨some 5, .move (.cst (.int .i64 0)), none⟩]) (.clr [5, 4])) (.seq (.seq (.seq (.region [⟨some 9, .move (.tmp 0), none⟩, ⟨some 10, .lenS (.tmp 9), none⟩, ⟨some 11, .bin .rem (.tmp 10) (.cst (.int .i64 64)), none⟩, ⟨some 12, .bin .neq (.tmp 11) (.cst (.int .i64 0)), none⟩, ⟨some 13, .move (.tmp 12), none⟩, ⟨some 14, .move (.tmp 1), some (13, false)⟩, ⟨some 15, .call 30 [.tmp 14, .cst (.func 31 [] [])], some (13, false)⟩, ⟨some 16, .pick (.tmp 13) (.cst (.bool true)) (.tmp 15), none⟩]) (.clr [15, 14, 13, 12, 11, 10, 9])) (.cond (.tmp 16) (.seq (.clr [16, 1, 0]) (.seq (.region [⟨some 4, .move (.cst .nilp), none⟩, ⟨some 5, .move (.cst (.int .i64 2)), none⟩]) .ret)) (.seq (.clr [16]) .skip))) (.seq (.seq (.region [⟨some 18, .move (.tmp 0), none⟩, ⟨some 19, .lenS (.tmp 18), none⟩, ⟨some 20, .bin .quo (.tmp 19) (.cst (.int .i64 64)), none⟩, ⟨some 21, .move (.tmp 1), none⟩, ⟨some 22, .lenS (.tmp 21), none⟩, ⟨some 23, .call 15 [.tmp 20, .tmp 22], none⟩, ⟨some 17, .move (.tmp 23), none⟩, ⟨some 24, .extract (.tmp 17) 0, none⟩, ⟨some 25, .extract (.tmp 17) 1, none⟩, ⟨some 6, .move (.tmp 24), none⟩, ⟨some 7, .move (.tmp 25), none⟩]) (.clr [25, 24, 23, 22, 21, 20, 19, 18, 17])) (.seq (.seq (.seq (.region [⟨some 26, .move (.tmp 7), none⟩, ⟨some 27, .bin .neq (.tmp 26) (.cst (.int .i64 0)), none⟩]) (.clr [26])) (.cond (.tmp 27) (.seq (.clr [27, 6, 1, 0]) (.seq (.seq (.region [⟨some 28, .move (.tmp 7), none⟩, ⟨some 4, .move (.cst .nilp), none⟩, ⟨some 5, .move (.tmp 28), none⟩]) (.clr [28, 7])) .ret)) (.seq (.clr [27, 7]) .skip))) (.seq (.seq (.region [⟨some 29, .move (.tmp 6), none⟩, ⟨some 30, .nilck (.tmp 29), none⟩, ⟨some 31, .faddr 1 (.tmp 30), none⟩, ⟨some 32, .slA 8 1 (.tmp 31) none none none, none⟩, ⟨some 33, .move (.tmp 1), none⟩, ⟨some 34, .copy 1 (.tmp 32) (.tmp 33), none⟩]) (.clr [34, 33, 32, 31, 30, 29, 1])) (.seq (.seq (.seq (.region [⟨some 35, .move (.tmp 6), none⟩, ⟨some 36, .nilck (.tmp 35), none⟩, ⟨some 37, .faddr 0 (.tmp 36), none⟩, ⟨some 38, .load none (.tmp 37), none⟩, ⟨some 39, .lenS (.tmp 38), none⟩, ⟨some 40, .move (.cst (.int .i64 0)), none⟩]) (.clr [38, 37, 36, 35])) (.block 0 (.loop [] [] (.seq (.region [⟨some 41, .bin .lss (.tmp 40) (.tmp 39), none⟩]) (.seq (.cond (.tmp 41) (.seq (.clr [41]) .skip) (.seq (.clr [41, 40, 39, 0]) (.exit 0))) (.seq (.block 1 (.seq (.seq (.region [⟨some 42, .move (.tmp 40), none⟩, ⟨some 8, .move (.tmp 42), none⟩]) (.clr [42])) (.seq (.region [⟨some 43, .move (.tmp 6), none⟩, ⟨some 44, .nilck (.tmp 43), none⟩, ⟨some 45, .faddr 0 (.tmp 44), none⟩, ⟨some 46, .load none (.tmp 45), none⟩, ⟨some 47, .move (.tmp 8), none⟩, ⟨some 48, .move (.tmp 0), none⟩, ⟨some 49, .move (.tmp 8), none⟩, ⟨some 50, .bin .mul (.tmp 49) (.cst (.int .i64 64)), none⟩, ⟨some 51, .slS 1 (.tmp 48) (some (.tmp 50)) none none, none⟩, ⟨some 52, .s2ap 64 1 (.tmp 51), none⟩, ⟨some 53, .load (some 64) (.tmp 52), none⟩, ⟨some 54, .iaddrS 64 (.tmp 46) (.tmp 47), none⟩, ⟨none, .store 64 (.tmp 54) (.tmp 53), none⟩]) (.clr [54, 53, 52, 51, 50, 49, 48, 47, 46, 45, 44, 43, 8])))) (.seq (.region [⟨some 55, .bin .add (.tmp 40) (.cst (.int .i64 1)), none⟩, ⟨some 40, .move (.tmp 55), none⟩]) (.clr [55])))))))) (.seq (.seq (.region [⟨some 56, .move (.tmp 6), none⟩, ⟨some 4, .move (.tmp 56), none⟩, ⟨some 5, .move (.cst (.int .i64 0)), none⟩]) (.clr [56, 6])) .ret)))))), res := [.tmp 4, .tmp 5] }
def am10 : AFunc := { nargs := 2, nt := 75, sites := 0, mode := .keep, body := .seq (.seq (.region [⟨some 4, .move (.cst .nilp), none⟩]) (.clr [4])) (.seq (.seq (.seq (.region [⟨some 8, .move (.tmp 0), none⟩, ⟨some 9, .lenS (.tmp 8), none⟩, ⟨some 10, .bin .rem (.tmp 9) (.cst (.int .i64 64)), none⟩, ⟨some 11, .bin .neq (.tmp 10) (.cst (.int .i64 0)), none⟩]) (.clr [10, 9, 8])) (.cond (.tmp 11) (.seq (.clr [11, 1, 0]) (.seq (.region [⟨some 4, .move (.cst .nilp), none⟩]) .ret)) (.seq (.clr [11]) .skip))) (.seq (.seq (.region [⟨some 12, .move (.tmp 0), none⟩, ⟨some 13, .lenS (.tmp 12), none⟩, ⟨some 14, .bin .quo (.tmp 13) (.cst (.int .i64 64)), none⟩, ⟨some 15, .move (.tmp 1), none⟩, ⟨some 16, .lenS (.tmp 15), none⟩, ⟨some 17, .call 14 [.tmp 14, .tmp 16], none⟩, ⟨some 5, .move (.tmp 17), none⟩]) (.clr [17, 16, 15, 14, 13, 12])) (.seq (.seq (.region [⟨some 6, .move (.cst (.int .i64 0)), none⟩]) (.block 0 (.loop [] [] (.seq (.seq (.seq (.region [⟨some 18, .move (.tmp 5), none⟩, ⟨some 19, .eqnil true (NK.p) (.tmp 18), none⟩, ⟨some 20, .move (.tmp 19), none⟩, ⟨some 21, .move (.tmp 6), some (20, true)⟩, ⟨some 22, .move (.tmp 1), some (20, true)⟩, ⟨some 23, .lenS (.tmp 22), some (20, true)⟩, ⟨some 24, .bin .lss (.tmp 21) (.tmp 23), some (20, true)⟩, ⟨some 25, .pick (.tmp 20) (.tmp 24) (.cst (.bool false)), none⟩]) (.clr [24, 23, 22, 21, 20, 19, 18])) (.cond (.tmp 25) (.seq (.clr [25]) .skip) (.seq (.clr [25, 6, 1]) (.exit 0)))) (.seq (.block 1 (.seq (.seq (.seq (.region [⟨some 28, .move (.tmp 1), none⟩, ⟨some 29, .move (.tmp 6), none⟩, ⟨some 30, .iaddrS 1 (.tmp 28) (.tmp 29), none⟩, ⟨some 31, .load none (.tmp 30), none⟩, ⟨some 32, .bin .lss (.tmp 31) (.cst (.int .i64 0)), none⟩, ⟨some 33, .move (.tmp 32), none⟩, ⟨some 34, .move (.tmp 1), some (33, false)⟩, ⟨some 35, .move (.tmp 6), some (33, false)⟩, ⟨some 36, .iaddrS 1 (.tmp 34) (.tmp 35), some (33, false)⟩, ⟨some 37, .load none (.tmp 36), some (33, false)⟩, ⟨some 38, .bin .gtr (.tmp 37) (.cst (.int .i64 2147483647)), some (33, false)⟩, ⟨some 39, .pick (.tmp 33) (.cst (.bool true)) (.tmp 38), none⟩]) (.clr [38, 37, 36, 35, 34, 33, 32, 31, 30, 29, 28])) (.cond (.tmp 39) (.seq (.clr [39, 6, 5, 1, 0]) (.seq (.region [⟨some 4, .move (.cst .nilp), none⟩]) .ret)) (.seq (.clr [39]) .skip))) (.seq (.region [⟨some 40, .move (.tmp 5), none⟩, ⟨some 41, .nilck (.tmp 40), none⟩, ⟨some 42, .faddr 1 (.tmp 41), none⟩, ⟨some 43, .load none (.tmp 42), none⟩, ⟨some 44, .move (.tmp 6), none⟩, ⟨some 45, .move (.tmp 1), none⟩, ⟨some 46, .move (.tmp 6), none⟩, ⟨some 47, .iaddrS 1 (.tmp 45) (.tmp 46), none⟩, ⟨some 48, .load none (.tmp 47), none⟩, ⟨some 49, .iaddrS 1 (.tmp 43) (.tmp 44), none⟩, ⟨none, .store 1 (.tmp 49) (.tmp 48), none⟩]) (.clr [49, 48, 47, 46, 45, 44, 43, 42, 41, 40])))) (.seq (.region [⟨some 26, .move (.tmp 6), none⟩, ⟨some 27, .bin .add (.tmp 26) (.cst (.int .i64 1)), none⟩, ⟨some 6, .move (.tmp 27), none⟩]) (.clr [27, 26]))))))) (.seq (.seq (.region [⟨some 7, .move (.cst (.int .i64 0)), none⟩]) (.block 2 (.loop [] [] (.seq (.seq (.seq (.region [⟨some 50, .move (.tmp 5), none⟩, ⟨some 51, .eqnil true (NK.p) (.tmp 50), none⟩, ⟨some 52, .move (.tmp 51), none⟩, ⟨some 53, .move (.tmp 7), some (52, true)⟩, ⟨some 54, .move (.tmp 0), some (52, true)⟩, ⟨some 55, .lenS (.tmp 54), some (52, true)⟩, ⟨some 56, .bin .lss (.tmp 53) (.tmp 55), some (52, true)⟩, ⟨some 57, .pick (.tmp 52) (.tmp 56) (.cst (.bool false)), none⟩]) (.clr [56, 55, 54, 53, 52, 51, 50])) (.cond (.tmp 57) (.seq (.clr [57]) .skip) (.seq (.clr [57, 7, 0]) (.exit 2)))) (.seq (.block 3 (.seq (.region [⟨some 60, .move (.tmp 5), none⟩, ⟨some 61, .nilck (.tmp 60), none⟩, ⟨some 62, .faddr 0 (.tmp 61), none⟩, ⟨some 63, .load none (.tmp 62), none⟩, ⟨some 64, .move (.tmp 7), none⟩, ⟨some 65, .bin .quo (.tmp 64) (.cst (.int .i64 64)), none⟩, ⟨some 66, .move (.tmp 7), none⟩, ⟨some 67, .bin .rem (.tmp 66) (.cst (.int .i64 64)), none⟩, ⟨some 68, .move (.tmp 0), none⟩, ⟨some 69, .move (.tmp 7), none⟩, ⟨some 70, .iaddrS 1 (.tmp 68) (.tmp 69), none⟩, ⟨some 71, .load none (.tmp 70), none⟩, ⟨some 72, .iaddrS 64 (.tmp 63) (.tmp 65), none⟩, ⟨some 73, .iaddrA 64 1 (.tmp 72) (.tmp 67), none⟩, ⟨none, .store 1 (.tmp 73) (.tmp 71), none⟩]) (.clr [73, 72, 71, 70, 69, 68, 67, 66, 65, 64, 63, 62, 61, 60]))) (.seq (.region [⟨some 58, .move (.tmp 7), none⟩, ⟨some 59, .bin .add (.tmp 58) (.cst (.int .i64 1)), none⟩, ⟨some 7, .move (.tmp 59), none⟩]) (.clr [59, 58]))))))) (.seq (.seq (.region [⟨some 74, .move (.tmp 5), none⟩, ⟨some 4, .move (.tmp 74), none⟩]) (.clr [74, 5])) .ret))))), res := [.tmp 4] }
def am11 : AFunc := { nargs := 1, nt := 4, sites := 0, mode := .pure, body := .seq (.seq (.region [⟨some 2, .move (.cst (.int .i64 0)), none⟩]) (.clr [2])) (.seq (.seq (.region [⟨some 3, .move (.tmp 0), none⟩, ⟨some 2, .move (.tmp 3), none⟩]) (.clr [3, 0])) .ret), res := [.tmp 2] }
def am13 : AFunc := { nargs := 1, nt := 26, sites := 0, mode := .look, body := .seq (.seq (.region [⟨some 2, .move (.cst (.bool false)), none⟩]) (.clr [2])) (.seq (.region [⟨some 3, .move (.cst (.int .i64 0)), none⟩]) (.seq (.seq (.region [⟨some 4, .move (.cst (.int .i64 0)), none⟩]) (.block 0 (.loop [] [] (.seq (.seq (.seq (.region [⟨some 5, .move (.tmp 4), none⟩, ⟨some 6, .move (.tmp 0), none⟩, ⟨some 7, .lenS (.tmp 6), none⟩, ⟨some 8, .bin .lss (.tmp 5) (.tmp 7), none⟩, ⟨some 9, .move (.tmp 8), none⟩, ⟨some 10, .move (.tmp 4), some (9, true)⟩, ⟨some 11, .bin .lss (.tmp 10) (.cst (.int .i64 60)), some (9, true)⟩, ⟨some 12, .pick (.tmp 9) (.tmp 11) (.cst (.bool false)), none⟩]) (.clr [11, 10, 9, 8, 7, 6, 5])) (.cond (.tmp 12) (.seq (.clr [12]) .skip) (.seq (.clr [12, 4, 0]) (.exit 0)))) (.seq (.block 1 (.seq (.region [⟨some 15, .move (.tmp 3), none⟩, ⟨some 16, .move (.tmp 0), none⟩, ⟨some 17, .move (.tmp 4), none⟩, ⟨some 18, .iaddrS 134 (.tmp 16) (.tmp 17), none⟩, ⟨some 19, .faddr 5 (.tmp 18), none⟩, ⟨some 20, .load none (.tmp 19), none⟩, ⟨some 21, .lenS (.tmp 20), none⟩, ⟨some 22, .minmax false [.tmp 21, .cst (.int .i64 9000)], none⟩, ⟨some 23, .bin .add (.tmp 15) (.tmp 22), none⟩, ⟨some 3, .move (.tmp 23), none⟩]) (.clr [23, 22, 21, 20, 19, 18, 17, 16, 15]))) (.seq (.region [⟨some 13, .move (.tmp 4), none⟩, ⟨some 14, .bin .add (.tmp 13) (.cst (.int .i64 1)), none⟩, ⟨some 4, .move (.tmp 14), none⟩]) (.clr [14, 13]))))))) (.seq (.seq (.region [⟨some 24, .move (.tmp 3), none⟩, ⟨some 25, .bin .gtr (.tmp 24) (.cst (.int .i64 9000)), none⟩, ⟨some 2, .move (.tmp 25), none⟩]) (.clr [25, 24, 3])) .ret))), res := [.tmp 2] }
def am14 : AFunc := { nargs := 2, nt := 25, sites := 3, mode := .keep, body := .seq (.seq (.region [⟨some 4, .move (.cst .nilp), none⟩]) (.clr [4])) (.seq (.seq (.seq (.region [⟨some 5, .move (.tmp 0), none⟩, ⟨some 6, .bin .lss (.tmp 5) (.cst (.int .i64 1)), none⟩, ⟨some 7, .move (.tmp 6), none⟩, ⟨some 8, .move (.tmp 0), some (7, false)⟩, ⟨some 9, .bin .gtr (.tmp 8) (.cst (.int .i64 4096)), some (7, false)⟩, ⟨some 10, .pick (.tmp 7) (.cst (.bool true)) (.tmp 9), none⟩, ⟨some 11, .move (.tmp 10), none⟩, ⟨some 12, .move (.tmp 1), some (11, false)⟩, ⟨some 13, .bin .lss (.tmp 12) (.cst (.int .i64 1)), some (11, false)⟩, ⟨some 14, .pick (.tmp 11) (.cst (.bool true)) (.tmp 13), none⟩, ⟨some 15, .move (.tmp 14), none⟩, ⟨some 16, .move (.tmp 1), some (15, false)⟩, ⟨some 17, .bin .gtr (.tmp 16) (.cst (.int .i64 8)), some (15, false)⟩, ⟨some 18, .pick (.tmp 15) (.cst (.bool true)) (.tmp 17), none⟩]) (.clr [17, 16, 15, 14, 13, 12, 11, 10, 9, 8, 7, 6, 5])) (.cond (.tmp 18) (.seq (.clr [18, 1, 0]) (.seq (.region [⟨some 4, .move (.cst .nilp), none⟩]) .ret)) (.seq (.clr [18]) .skip))) (.seq (.seq (.draw [(⟨some 19, .move (.tmp 0), none⟩, []), (⟨some 20, .mkslice 0 [.int .u8 0, .int .u8 0, .int .u8 0, .int .u8 0, .int .u8 0, .int .u8 0, .int .u8 0, .int .u8 0, .int .u8 0, .int .u8 0, .int .u8 0, .int .u8 0, .int .u8 0, .int .u8 0, .int .u8 0, .int .u8 0, .int .u8 0, .int .u8 0, .int .u8 0, .int .u8 0, .int .u8 0, .int .u8 0, .int .u8 0, .int .u8 0, .int .u8 0, .int .u8 0, .int .u8 0, .int .u8 0, .int .u8 0, .int .u8 0, .int .u8 0, .int .u8 0, .int .u8 0, .int .u8 0, .int .u8 0, .int .u8 0, .int .u8 0, .int .u8 0, .int .u8 0, .int .u8 0, .int .u8 0, .int .u8 0, .int .u8 0, .int .u8 0, .int .u8 0, .int .u8 0, .int .u8 0, .int .u8 0, .int .u8 0, .int .u8 0, .int .u8 0, .int .u8 0, .int .u8 0, .int .u8 0, .int .u8 0, .int .u8 0, .int .u8 0, .int .u8 0, .int .u8 0, .int .u8 0, .int .u8 0, .int .u8 0, .int .u8 0, .int .u8 0] 64 64 (.tmp 19) (.tmp 19), none⟩, []), (⟨some 21, .move (.tmp 1), none⟩, []), (⟨some 22, .mkslice 1 [.int .i64 0] 1 8 (.tmp 21) (.tmp 21), none⟩, [1]), (⟨some 23, .build [.nils, .nils, .int .i64 0, .bool false, .int .i64 0] [(0, 1, .tmp 20), (1, 1, .tmp 22), (2, 1, .cst (.int .i64 (-1)))], none⟩, []), (⟨some 24, .box 2 (.tmp 23), none⟩, []), (⟨some 4, .move (.tmp 24), none⟩, [])]) (.clr [24, 23, 22, 21, 20, 19, 1, 0])) .ret)), res := [.tmp 4] }
def am15 : AFunc := { nargs := 2, nt := 25, sites := 2, mode := .keep, body := .seq (.seq (.region [⟨some 4, .move (.cst .nilp), none⟩, ⟨some 5, .move (.cst (.int .i64 0)), none⟩]) (.clr [5, 4])) (.seq (.seq (.seq (.region [⟨some 6, .move (.tmp 0), none⟩, ⟨some 7, .bin .lss (.tmp 6) (.cst (.int .i64 1)), none⟩, ⟨some 8, .move (.tmp 7), none⟩, ⟨some 9, .move (.tmp 0), some (8, false)⟩, ⟨some 10, .bin .gtr (.tmp 9) (.cst (.int .i64 4096)), some (8, false)⟩, ⟨some 11, .pick (.tmp 8) (.cst (.bool true)) (.tmp 10), none⟩, ⟨some 12, .move (.tmp 11), none⟩, ⟨some 13, .move (.tmp 1), some (12, false)⟩, ⟨some 14, .bin .lss (.tmp 13) (.cst (.int .i64 1)), some (12, false)⟩, ⟨some 15, .pick (.tmp 12) (.cst (.bool true)) (.tmp 14), none⟩, ⟨some 16, .move (.tmp 15), none⟩, ⟨some 17, .move (.tmp 1), some (16, false)⟩, ⟨some 18, .bin .gtr (.tmp 17) (.cst (.int .i64 8)), some (16, false)⟩, ⟨some 19, .pick (.tmp 16) (.cst (.bool true)) (.tmp 18), none⟩]) (.clr [18, 17, 16, 15, 14, 13, 12, 11, 10, 9, 8, 7, 6])) (.cond (.tmp 19) (.seq (.clr [19, 1, 0]) (.seq (.region [⟨some 4, .move (.cst .nilp), none⟩, ⟨some 5, .move (.cst (.int .i64 2)), none⟩]) .ret)) (.seq (.clr [19]) .skip))) (.seq (.seq (.region [⟨some 20, .move (.tmp 0), none⟩, ⟨some 21, .mkslice 0 [.int .u8 0, .int .u8 0, .int .u8 0, .int .u8 0, .int .u8 0, .int .u8 0, .int .u8 0, .int .u8 0, .int .u8 0, .int .u8 0, .int .u8 0, .int .u8 0, .int .u8 0, .int .u8 0, .int .u8 0, .int .u8 0, .int .u8 0, .int .u8 0, .int .u8 0, .int .u8 0, .int .u8 0, .int .u8 0, .int .u8 0, .int .u8 0, .int .u8 0, .int .u8 0, .int .u8 0, .int .u8 0, .int .u8 0, .int .u8 0, .int .u8 0, .int .u8 0, .int .u8 0, .int .u8 0, .int .u8 0, .int .u8 0, .int .u8 0, .int .u8 0, .int .u8 0, .int .u8 0, .int .u8 0, .int .u8 0, .int .u8 0, .int .u8 0, .int .u8 0, .int .u8 0, .int .u8 0, .int .u8 0, .int .u8 0, .int .u8 0, .int .u8 0, .int .u8 0, .int .u8 0, .int .u8 0, .int .u8 0, .int .u8 0, .int .u8 0, .int .u8 0, .int .u8 0, .int .u8 0, .int .u8 0, .int .u8 0, .int .u8 0, .int .u8 0] 64 64 (.tmp 20) (.tmp 20), none⟩, ⟨some 22, .move (.tmp 1), none⟩, ⟨some 23, .build [.nils, .int .i64 0, .int .i64 0, .int .i64 0, .int .i64 0, .int .i64 0, .int .i64 0, .int .i64 0, .int .i64 0, .int .i64 0, .bool false, .int .i64 0, .bool false, .int .i64 0] [(0, 1, .tmp 21), (9, 1, .tmp 22)], none⟩, ⟨some 24, .box 1 (.tmp 23), none⟩, ⟨some 4, .move (.tmp 24), none⟩, ⟨some 5, .move (.cst (.int .i64 0)), none⟩]) (.clr [24, 23, 22, 21, 20, 1, 0])) .ret)), res := [.tmp 4, .tmp 5] }
def am16 : AFunc := { nargs := 3, nt := 275, sites := 3, mode := .keep, body := .seq (.seq (.region [⟨some 5, .box 0 (.tmp 2), none⟩, ⟨some 6, .move (.cst .nilp), none⟩, ⟨some 7, .move (.cst .nilp), none⟩, ⟨some 8, .move (.cst (.bool false)), none⟩]) (.clr [8, 7, 6, 2])) (.seq (.seq (.seq (.region [⟨some 25, .faddr 0 (.tmp 5), none⟩, ⟨some 26, .load none (.tmp 25), none⟩]) (.clr [25])) (.block 0 (.seq (.seq (.region [⟨some 28, .bin .eql (.tmp 26) (.cst (.int .i64 1)), none⟩, ⟨some 27, .move (.tmp 28), none⟩]) (.clr [28])) (.cond (.tmp 27) (.seq (.clr [27, 26]) (.seq (.seq (.region [⟨some 29, .faddr 5 (.tmp 5), none⟩, ⟨some 30, .load none (.tmp 29), none⟩, ⟨some 31, .append 1 64 64 (.cst .nils) (.tmp 30), none⟩, ⟨some 32, .call 23 [.cst (.int .u8 7)], none⟩, ⟨some 33, .bslice [.int .u8 0, .int .u8 0, .int .u8 0, .int .u8 0, .int .u8 0, .int .u8 0, .int .u8 0, .int .u8 0, .int .u8 0, .int .u8 0, .int .u8 0, .int .u8 0, .int .u8 0, .int .u8 0, .int .u8 0, .int .u8 0, .int .u8 0, .int .u8 0, .int .u8 0, .int .u8 0, .int .u8 0, .int .u8 0, .int .u8 0, .int .u8 0, .int .u8 0, .int .u8 0, .int .u8 0, .int .u8 0, .int .u8 0, .int .u8 0, .int .u8 0, .int .u8 0, .int .u8 0, .int .u8 0, .int .u8 0, .int .u8 0, .int .u8 0, .int .u8 0, .int .u8 0, .int .u8 0, .int .u8 0, .int .u8 0, .int .u8 0, .int .u8 0, .int .u8 0, .int .u8 0, .int .u8 0, .int .u8 0, .int .u8 0, .int .u8 0, .int .u8 0, .int .u8 0, .int .u8 0, .int .u8 0, .int .u8 0, .int .u8 0, .int .u8 0, .int .u8 0, .int .u8 0, .int .u8 0, .int .u8 0, .int .u8 0, .int .u8 0, .int .u8 0] 1 64 [(0, 64, .tmp 32)], none⟩, ⟨some 34, .append 2 64 64 (.tmp 31) (.tmp 33), none⟩, ⟨some 9, .move (.tmp 34), none⟩]) (.clr [34, 33, 32, 31, 30, 29])) (.seq (.seq (.region [⟨some 35, .move (.tmp 0), none⟩, ⟨some 36, .faddr 1 (.tmp 5), none⟩, ⟨some 37, .load none (.tmp 36), none⟩, ⟨some 38, .faddr 3 (.tmp 5), none⟩, ⟨some 39, .load none (.tmp 38), none⟩, ⟨some 40, .faddr 2 (.tmp 5), none⟩, ⟨some 41, .load none (.tmp 40), none⟩, ⟨some 42, .move (.tmp 9), none⟩, ⟨some 43, .faddr 5 (.tmp 5), none⟩, ⟨some 44, .load none (.tmp 43), none⟩, ⟨some 45, .lenS (.tmp 44), none⟩, ⟨some 46, .slS 64 (.tmp 42) none (some (.tmp 45)) none, none⟩, ⟨some 47, .call 22 [.tmp 35, .tmp 37, .tmp 39, .tmp 41, .tmp 46], none⟩, ⟨some 10, .move (.tmp 47), none⟩]) (.clr [47, 46, 45, 44, 43, 42, 41, 40, 39, 38, 37, 36, 35])) (.seq (.seq (.region [⟨some 48, .move (.tmp 9), none⟩, ⟨some 49, .faddr 5 (.tmp 5), none⟩, ⟨some 50, .load none (.tmp 49), none⟩, ⟨some 51, .lenS (.tmp 50), none⟩, ⟨some 52, .iaddrS 64 (.tmp 48) (.tmp 51), none⟩, ⟨some 53, .load (some 64) (.tmp 52), none⟩, ⟨some 54, .call 23 [.cst (.int .u8 7)], none⟩, ⟨some 55, .eqc false true [.i .u8, .i .u8, .i .u8, .i .u8, .i .u8, .i .u8, .i .u8, .i .u8, .i .u8, .i .u8, .i .u8, .i .u8, .i .u8, .i .u8, .i .u8, .i .u8, .i .u8, .i .u8, .i .u8, .i .u8, .i .u8, .i .u8, .i .u8, .i .u8, .i .u8, .i .u8, .i .u8, .i .u8, .i .u8, .i .u8, .i .u8, .i .u8, .i .u8, .i .u8, .i .u8, .i .u8, .i .u8, .i .u8, .i .u8, .i .u8, .i .u8, .i .u8, .i .u8, .i .u8, .i .u8, .i .u8, .i .u8, .i .u8, .i .u8, .i .u8, .i .u8, .i .u8, .i .u8, .i .u8, .i .u8, .i .u8, .i .u8, .i .u8, .i .u8, .i .u8, .i .u8, .i .u8, .i .u8, .i .u8] (.tmp 53) (.tmp 54), none⟩, ⟨some 11, .move (.tmp 55), none⟩]) (.clr [55, 54, 53, 52, 51, 50, 49, 48])) (.seq (.seq (.region [⟨some 12, .move (.cst (.int .i64 0)), none⟩]) (.block 1 (.loop [] [] (.seq (.seq (.seq (.region [⟨some 56, .move (.tmp 12), none⟩, ⟨some 57, .faddr 5 (.tmp 5), none⟩, ⟨some 58, .load none (.tmp 57), none⟩, ⟨some 59, .lenS (.tmp 58), none⟩, ⟨some 60, .bin .lss (.tmp 56) (.tmp 59), none⟩]) (.clr [59, 58, 57, 56])) (.cond (.tmp 60) (.seq (.clr [60]) .skip) (.seq (.clr [60, 12, 9]) (.exit 1)))) (.seq (.block 2 (.seq (.seq (.region [⟨some 63, .move (.tmp 11), none⟩, ⟨some 64, .move (.tmp 63), none⟩, ⟨some 65, .move (.tmp 9), some (64, true)⟩, ⟨some 66, .move (.tmp 12), some (64, true)⟩, ⟨some 67, .iaddrS 64 (.tmp 65) (.tmp 66), some (64, true)⟩, ⟨some 68, .load (some 64) (.tmp 67), some (64, true)⟩, ⟨some 69, .faddr 5 (.tmp 5), some (64, true)⟩, ⟨some 70, .load none (.tmp 69), some (64, true)⟩, ⟨some 71, .move (.tmp 12), some (64, true)⟩, ⟨some 72, .iaddrS 64 (.tmp 70) (.tmp 71), some (64, true)⟩, ⟨some 73, .load (some 64) (.tmp 72), some (64, true)⟩, ⟨some 74, .eqc false true [.i .u8, .i .u8, .i .u8, .i .u8, .i .u8, .i .u8, .i .u8, .i .u8, .i .u8, .i .u8, .i .u8, .i .u8, .i .u8, .i .u8, .i .u8, .i .u8, .i .u8, .i .u8, .i .u8, .i .u8, .i .u8, .i .u8, .i .u8, .i .u8, .i .u8, .i .u8, .i .u8, .i .u8, .i .u8, .i .u8, .i .u8, .i .u8, .i .u8, .i .u8, .i .u8, .i .u8, .i .u8, .i .u8, .i .u8, .i .u8, .i .u8, .i .u8, .i .u8, .i .u8, .i .u8, .i .u8, .i .u8, .i .u8, .i .u8, .i .u8, .i .u8, .i .u8, .i .u8, .i .u8, .i .u8, .i .u8, .i .u8, .i .u8, .i .u8, .i .u8, .i .u8, .i .u8, .i .u8, .i .u8] (.tmp 68) (.tmp 73), some (64, true)⟩, ⟨some 75, .pick (.tmp 64) (.tmp 74) (.cst (.bool false)), none⟩, ⟨some 11, .move (.tmp 75), none⟩]) (.clr [75, 74, 73, 72, 71, 70, 69, 68, 67, 66, 65, 64, 63])) (.seq (.region [⟨some 76, .move (.tmp 9), none⟩, ⟨some 77, .move (.tmp 12), none⟩, ⟨some 78, .call 23 [.cst (.int .u8 9)], none⟩, ⟨some 79, .iaddrS 64 (.tmp 76) (.tmp 77), none⟩, ⟨none, .store 64 (.tmp 79) (.tmp 78), none⟩]) (.clr [79, 78, 77, 76])))) (.seq (.region [⟨some 61, .move (.tmp 12), none⟩, ⟨some 62, .bin .add (.tmp 61) (.cst (.int .i64 1)), none⟩, ⟨some 12, .move (.tmp 62), none⟩]) (.clr [62, 61]))))))) (.seq (.seq (.region [⟨some 80, .move (.tmp 0), none⟩, ⟨some 81, .move (.tmp 1), none⟩, ⟨some 82, .move (.tmp 11), none⟩, ⟨some 83, .move (.tmp 82), none⟩, ⟨some 84, .move (.tmp 10), some (83, true)⟩, ⟨some 85, .call 11 [.tmp 84], some (83, true)⟩, ⟨some 86, .move (.tmp 1), some (83, true)⟩, ⟨some 87, .faddr 1 (.tmp 5), some (83, true)⟩, ⟨some 88, .load none (.tmp 87), some (83, true)⟩, ⟨some 89, .faddr 3 (.tmp 5), some (83, true)⟩, ⟨some 90, .load none (.tmp 89), some (83, true)⟩, ⟨some 91, .faddr 2 (.tmp 5), some (83, true)⟩, ⟨some 92, .load none (.tmp 91), some (83, true)⟩, ⟨some 93, .faddr 5 (.tmp 5), some (83, true)⟩, ⟨some 94, .load none (.tmp 93), some (83, true)⟩, ⟨some 95, .call 42 [.tmp 86, .tmp 88, .tmp 90, .tmp 92, .tmp 94], some (83, true)⟩, ⟨some 96, .bin .eql (.tmp 85) (.tmp 95), some (83, true)⟩, ⟨some 97, .pick (.tmp 83) (.tmp 96) (.cst (.bool false)), none⟩, ⟨some 6, .move (.tmp 80), none⟩, ⟨some 7, .move (.tmp 81), none⟩, ⟨some 8, .move (.tmp 97), none⟩]) (.clr [97, 96, 95, 94, 93, 92, 91, 90, 89, 88, 87, 86, 85, 84, 83, 82, 81, 80, 11, 10, 5, 1, 0])) .ret)))))) (.seq (.clr [27]) (.seq (.seq (.region [⟨some 99, .bin .eql (.tmp 26) (.cst (.int .i64 2)), none⟩, ⟨some 98, .move (.tmp 99), none⟩]) (.clr [99])) (.cond (.tmp 98) (.seq (.clr [98, 26]) (.seq (.seq (.region [⟨some 101, .move (.tmp 0), none⟩, ⟨some 102, .faddr 1 (.tmp 5), none⟩, ⟨some 103, .load none (.tmp 102), none⟩, ⟨some 104, .faddr 3 (.tmp 5), none⟩, ⟨some 105, .load none (.tmp 104), none⟩, ⟨some 106, .faddr 2 (.tmp 5), none⟩, ⟨some 107, .load none (.tmp 106), none⟩, ⟨some 108, .faddr 6 (.tmp 5), none⟩, ⟨some 109, .load (some 64) (.tmp 108), none⟩, ⟨some 110, .faddr 70 (.tmp 5), none⟩, ⟨some 111, .load (some 64) (.tmp 110), none⟩, ⟨some 112, .call 29 [.tmp 101, .tmp 103, .tmp 105, .tmp 107, .tmp 109, .tmp 111], none⟩, ⟨some 100, .move (.tmp 112), none⟩, ⟨some 113, .extract (.tmp 100) 0, none⟩, ⟨some 114, .extract (.tmp 100) 1, none⟩, ⟨some 13, .move (.tmp 113), none⟩, ⟨some 14, .move (.tmp 114), none⟩]) (.clr [114, 113, 112, 111, 110, 109, 108, 107, 106, 105, 104, 103, 102, 101, 100])) (.seq (.seq (.region [⟨some 116, .move (.tmp 1), none⟩, ⟨some 117, .faddr 1 (.tmp 5), none⟩, ⟨some 118, .load none (.tmp 117), none⟩, ⟨some 119, .faddr 3 (.tmp 5), none⟩, ⟨some 120, .load none (.tmp 119), none⟩, ⟨some 121, .faddr 2 (.tmp 5), none⟩, ⟨some 122, .load none (.tmp 121), none⟩, ⟨some 123, .faddr 6 (.tmp 5), none⟩, ⟨some 124, .load (some 64) (.tmp 123), none⟩, ⟨some 125, .faddr 70 (.tmp 5), none⟩, ⟨some 126, .load (some 64) (.tmp 125), none⟩, ⟨some 127, .call 43 [.tmp 116, .tmp 118, .tmp 120, .tmp 122, .tmp 124, .tmp 126], none⟩, ⟨some 115, .move (.tmp 127), none⟩, ⟨some 128, .extract (.tmp 115) 0, none⟩, ⟨some 129, .extract (.tmp 115) 1, none⟩, ⟨some 15, .move (.tmp 128), none⟩, ⟨some 16, .move (.tmp 129), none⟩]) (.clr [129, 128, 127, 126, 125, 124, 123, 122, 121, 120, 119, 118, 117, 116, 115, 5])) (.seq (.seq (.region [⟨some 130, .move (.tmp 0), none⟩, ⟨some 131, .move (.tmp 1), none⟩, ⟨some 132, .move (.tmp 13), none⟩, ⟨some 133, .move (.tmp 15), none⟩, ⟨some 134, .eqc false false [.b] (.tmp 132) (.tmp 133), none⟩, ⟨some 135, .move (.tmp 134), none⟩, ⟨some 136, .move (.tmp 14), some (135, true)⟩, ⟨some 137, .call 11 [.tmp 136], some (135, true)⟩, ⟨some 138, .move (.tmp 16), some (135, true)⟩, ⟨some 139, .bin .eql (.tmp 137) (.tmp 138), some (135, true)⟩, ⟨some 140, .pick (.tmp 135) (.tmp 139) (.cst (.bool false)), none⟩, ⟨some 6, .move (.tmp 130), none⟩, ⟨some 7, .move (.tmp 131), none⟩, ⟨some 8, .move (.tmp 140), none⟩]) (.clr [140, 139, 138, 137, 136, 135, 134, 133, 132, 131, 130, 16, 15, 14, 13, 1, 0])) .ret)))) (.seq (.clr [98]) (.seq (.seq (.region [⟨some 142, .bin .eql (.tmp 26) (.cst (.int .i64 3)), none⟩, ⟨some 141, .move (.tmp 142), none⟩]) (.clr [142])) (.cond (.tmp 141) (.seq (.clr [141, 26]) (.seq (.seq (.region [⟨some 144, .move (.tmp 0), none⟩, ⟨some 145, .faddr 1 (.tmp 5), none⟩, ⟨some 146, .load none (.tmp 145), none⟩, ⟨some 147, .call 27 [.tmp 144, .tmp 146], none⟩, ⟨some 143, .move (.tmp 147), none⟩, ⟨some 148, .extract (.tmp 143) 0, none⟩, ⟨some 149, .extract (.tmp 143) 1, none⟩, ⟨some 17, .move (.tmp 148), none⟩, ⟨some 18, .move (.tmp 149), none⟩]) (.clr [149, 148, 147, 146, 145, 144, 143])) (.seq (.seq (.region [⟨some 151, .move (.tmp 1), none⟩, ⟨some 152, .faddr 1 (.tmp 5), none⟩, ⟨some 153, .load none (.tmp 152), none⟩, ⟨some 154, .call 44 [.tmp 151, .tmp 153], none⟩, ⟨some 150, .move (.tmp 154), none⟩, ⟨some 155, .extract (.tmp 150) 0, none⟩, ⟨some 156, .extract (.tmp 150) 1, none⟩, ⟨some 19, .move (.tmp 155), none⟩, ⟨some 20, .move (.tmp 156), none⟩]) (.clr [156, 155, 154, 153, 152, 151, 150, 5])) (.seq (.seq (.region [⟨some 157, .move (.tmp 0), none⟩, ⟨some 158, .move (.tmp 1), none⟩, ⟨some 159, .move (.tmp 17), none⟩, ⟨some 160, .move (.tmp 19), none⟩, ⟨some 161, .bin .eql (.tmp 159) (.tmp 160), none⟩, ⟨some 162, .move (.tmp 161), none⟩, ⟨some 163, .move (.tmp 18), some (162, true)⟩, ⟨some 164, .call 11 [.tmp 163], some (162, true)⟩, ⟨some 165, .move (.tmp 20), some (162, true)⟩, ⟨some 166, .bin .eql (.tmp 164) (.tmp 165), some (162, true)⟩, ⟨some 167, .pick (.tmp 162) (.tmp 166) (.cst (.bool false)), none⟩, ⟨some 6, .move (.tmp 157), none⟩, ⟨some 7, .move (.tmp 158), none⟩, ⟨some 8, .move (.tmp 167), none⟩]) (.clr [167, 166, 165, 164, 163, 162, 161, 160, 159, 158, 157, 20, 19, 18, 17, 1, 0])) .ret)))) (.seq (.clr [141]) (.seq (.seq (.region [⟨some 169, .bin .eql (.tmp 26) (.cst (.int .i64 4)), none⟩, ⟨some 168, .move (.tmp 169), none⟩]) (.clr [169])) (.cond (.tmp 168) (.seq (.clr [168, 26]) (.seq (.seq (.draw [(⟨some 170, .move (.tmp 0), none⟩, []), (⟨some 171, .move (.tmp 1), none⟩, []), (⟨some 172, .move (.tmp 0), none⟩, []), (⟨some 173, .faddr 1 (.tmp 5), none⟩, []), (⟨some 174, .load none (.tmp 173), none⟩, []), (⟨some 175, .faddr 3 (.tmp 5), none⟩, []), (⟨some 176, .load none (.tmp 175), none⟩, []), (⟨some 177, .faddr 2 (.tmp 5), none⟩, []), (⟨some 178, .load none (.tmp 177), none⟩, []), (⟨some 179, .faddr 4 (.tmp 5), none⟩, []), (⟨some 180, .load none (.tmp 179), none⟩, []), (⟨some 181, .call 24 [.tmp 172, .tmp 174, .tmp 176, .tmp 178, .tmp 180], none⟩, []), (⟨some 182, .call 11 [.tmp 181], none⟩, []), (⟨some 183, .move (.tmp 1), none⟩, []), (⟨some 184, .faddr 1 (.tmp 5), none⟩, []), (⟨some 185, .load none (.tmp 184), none⟩, [11]), (⟨some 186, .faddr 3 (.tmp 5), none⟩, []), (⟨some 187, .load none (.tmp 186), none⟩, [11]), (⟨some 188, .faddr 2 (.tmp 5), none⟩, []), (⟨some 189, .load none (.tmp 188), none⟩, [11]), (⟨some 190, .faddr 4 (.tmp 5), none⟩, []), (⟨some 191, .load none (.tmp 190), none⟩, [11]), (⟨some 192, .call 45 [.tmp 183, .tmp 185, .tmp 187, .tmp 189, .tmp 191], none⟩, []), (⟨some 193, .bin .eql (.tmp 182) (.tmp 192), none⟩, []), (⟨some 6, .move (.tmp 170), none⟩, []), (⟨some 7, .move (.tmp 171), none⟩, []), (⟨some 8, .move (.tmp 193), none⟩, [])]) (.clr [193, 192, 191, 190, 189, 188, 187, 186, 185, 184, 183, 182, 181, 180, 179, 178, 177, 176, 175, 174, 173, 172, 171, 170, 5, 1, 0])) .ret)) (.seq (.clr [168]) (.seq (.seq (.region [⟨some 195, .bin .eql (.tmp 26) (.cst (.int .i64 5)), none⟩, ⟨some 194, .move (.tmp 195), none⟩]) (.clr [195])) (.cond (.tmp 194) (.seq (.clr [194, 26]) (.seq (.seq (.draw [(⟨some 196, .move (.tmp 0), none⟩, []), (⟨some 197, .move (.tmp 1), none⟩, []), (⟨some 198, .move (.tmp 0), none⟩, []), (⟨some 199, .faddr 2 (.tmp 5), none⟩, []), (⟨some 200, .load none (.tmp 199), none⟩, []), (⟨some 201, .call 25 [.tmp 198, .tmp 200], none⟩, []), (⟨some 202, .call 11 [.tmp 201], none⟩, []), (⟨some 203, .move (.tmp 1), none⟩, []), (⟨some 204, .faddr 2 (.tmp 5), none⟩, []), (⟨some 205, .load none (.tmp 204), none⟩, [5]), (⟨some 206, .call 46 [.tmp 203, .tmp 205], none⟩, []), (⟨some 207, .bin .eql (.tmp 202) (.tmp 206), none⟩, []), (⟨some 6, .move (.tmp 196), none⟩, []), (⟨some 7, .move (.tmp 197), none⟩, []), (⟨some 8, .move (.tmp 207), none⟩, [])]) (.clr [207, 206, 205, 204, 203, 202, 201, 200, 199, 198, 197, 196, 5, 1, 0])) .ret)) (.seq (.clr [194, 5]) (.seq (.seq (.region [⟨some 209, .bin .eql (.tmp 26) (.cst (.int .i64 6)), none⟩, ⟨some 208, .move (.tmp 209), none⟩]) (.clr [209])) (.cond (.tmp 208) (.seq (.clr [208, 26]) (.seq (.seq (.region [⟨some 210, .move (.tmp 0), none⟩, ⟨some 211, .move (.tmp 1), none⟩, ⟨some 212, .move (.tmp 0), none⟩, ⟨some 213, .call 20 [.tmp 212], none⟩, ⟨some 214, .move (.tmp 1), none⟩, ⟨some 215, .call 47 [.tmp 214], none⟩, ⟨some 216, .eqc false false [.b] (.tmp 213) (.tmp 215), none⟩, ⟨some 6, .move (.tmp 210), none⟩, ⟨some 7, .move (.tmp 211), none⟩, ⟨some 8, .move (.tmp 216), none⟩]) (.clr [216, 215, 214, 213, 212, 211, 210, 1, 0])) .ret)) (.seq (.clr [208]) (.seq (.seq (.region [⟨some 218, .bin .eql (.tmp 26) (.cst (.int .i64 7)), none⟩, ⟨some 217, .move (.tmp 218), none⟩]) (.clr [218])) (.cond (.tmp 217) (.seq (.clr [217, 26]) (.seq (.seq (.region [⟨some 219, .move (.tmp 0), none⟩, ⟨some 220, .call 21 [.tmp 219], none⟩, ⟨some 21, .move (.tmp 220), none⟩]) (.clr [220, 219])) (.seq (.seq (.region [⟨some 221, .move (.tmp 21), none⟩, ⟨some 222, .eqnil true (NK.p) (.tmp 221), none⟩, ⟨some 223, .move (.tmp 222), none⟩, ⟨some 224, .move (.tmp 21), some (223, true)⟩, ⟨some 225, .move (.tmp 0), some (223, true)⟩, ⟨some 226, .call 17 [.tmp 224, .tmp 225], some (223, true)⟩, ⟨some 227, .pick (.tmp 223) (.tmp 226) (.cst (.bool false)), none⟩, ⟨some 22, .move (.tmp 227), none⟩]) (.clr [227, 226, 225, 224, 223, 222, 221])) (.seq (.seq (.region [⟨some 228, .move (.tmp 0), none⟩, ⟨some 229, .call 27 [.tmp 228, .cst (.int .i64 0)], none⟩]) (.clr [229, 228])) (.seq (.seq (.region [⟨some 230, .move (.tmp 0), none⟩, ⟨some 231, .move (.tmp 1), none⟩, ⟨some 232, .nilck (.tmp 231), none⟩, ⟨some 233, .faddr 1 (.tmp 232), none⟩, ⟨some 234, .load none (.tmp 233), none⟩, ⟨some 235, .iaddrS 1 (.tmp 234) (.cst (.int .i64 0)), none⟩, ⟨some 236, .load none (.tmp 235), none⟩, ⟨some 237, .bin .add (.tmp 236) (.cst (.int .i64 1)), none⟩, ⟨some 238, .call 23 [.cst (.int .u8 5)], none⟩, ⟨some 239, .bslice [.int .u8 0, .int .u8 0, .int .u8 0, .int .u8 0, .int .u8 0, .int .u8 0, .int .u8 0, .int .u8 0, .int .u8 0, .int .u8 0, .int .u8 0, .int .u8 0, .int .u8 0, .int .u8 0, .int .u8 0, .int .u8 0, .int .u8 0, .int .u8 0, .int .u8 0, .int .u8 0, .int .u8 0, .int .u8 0, .int .u8 0, .int .u8 0, .int .u8 0, .int .u8 0, .int .u8 0, .int .u8 0, .int .u8 0, .int .u8 0, .int .u8 0, .int .u8 0, .int .u8 0, .int .u8 0, .int .u8 0, .int .u8 0, .int .u8 0, .int .u8 0, .int .u8 0, .int .u8 0, .int .u8 0, .int .u8 0, .int .u8 0, .int .u8 0, .int .u8 0, .int .u8 0, .int .u8 0, .int .u8 0, .int .u8 0, .int .u8 0, .int .u8 0, .int .u8 0, .int .u8 0, .int .u8 0, .int .u8 0, .int .u8 0, .int .u8 0, .int .u8 0, .int .u8 0, .int .u8 0, .int .u8 0, .int .u8 0, .int .u8 0, .int .u8 0] 1 64 [(0, 64, .tmp 238)], none⟩, ⟨some 240, .call 22 [.tmp 230, .cst (.int .i64 0), .tmp 237, .cst (.int .i64 0), .tmp 239], none⟩]) (.clr [240, 239, 238, 237, 236, 235, 234, 233, 232, 231, 230])) (.seq (.seq (.region [⟨some 241, .move (.tmp 0), none⟩, ⟨some 242, .call 20 [.tmp 241], none⟩]) (.clr [242, 241, 0])) (.seq (.seq (.region [⟨some 243, .move (.tmp 21), none⟩, ⟨some 244, .move (.tmp 1), none⟩, ⟨some 245, .move (.tmp 22), none⟩, ⟨some 6, .move (.tmp 243), none⟩, ⟨some 7, .move (.tmp 244), none⟩, ⟨some 8, .move (.tmp 245), none⟩]) (.clr [245, 244, 243, 22, 21, 1])) .ret))))))) (.seq (.clr [217]) (.seq (.seq (.region [⟨some 247, .bin .eql (.tmp 26) (.cst (.int .i64 8)), none⟩, ⟨some 246, .move (.tmp 247), none⟩]) (.clr [247, 26])) (.cond (.tmp 246) (.seq (.clr [246]) (.seq (.seq (.draw [(⟨some 249, .move (.tmp 0), none⟩, []), (⟨some 250, .call 35 [.tmp 249], none⟩, []), (⟨some 251, .move (.tmp 1), none⟩, []), (⟨some 252, .nilck (.tmp 251), none⟩, []), (⟨some 253, .faddr 1 (.tmp 252), none⟩, []), (⟨some 254, .load none (.tmp 253), none⟩, [1]), (⟨some 255, .call 9 [.tmp 250, .tmp 254], none⟩, []), (⟨some 248, .move (.tmp 255), none⟩, []), (⟨some 256, .extract (.tmp 248) 0, none⟩, []), (⟨some 257, .extract (.tmp 248) 1, none⟩, []), (⟨some 23, .move (.tmp 256), none⟩, []), (⟨some 24, .move (.tmp 257), none⟩, [])]) (.clr [257, 256, 255, 254, 253, 252, 251, 250, 249, 248, 0])) (.seq (.seq (.draw [(⟨some 258, .move (.tmp 23), none⟩, []), (⟨some 259, .move (.tmp 1), none⟩, []), (⟨some 260, .call 36 [.tmp 259], none⟩, []), (⟨some 261, .move (.tmp 1), none⟩, []), (⟨some 262, .nilck (.tmp 261), none⟩, []), (⟨some 263, .faddr 1 (.tmp 262), none⟩, []), (⟨some 264, .load none (.tmp 263), none⟩, [2]), (⟨some 265, .call 10 [.tmp 260, .tmp 264], none⟩, []), (⟨some 266, .move (.tmp 23), none⟩, []), (⟨some 267, .eqnil true (NK.p) (.tmp 266), none⟩, []), (⟨some 268, .move (.tmp 267), none⟩, []), (⟨some 269, .move (.tmp 24), some (268, true)⟩, []), (⟨some 270, .call 11 [.tmp 269], some (268, true)⟩, []), (⟨some 271, .bin .eql (.tmp 270) (.cst (.int .i64 0)), some (268, true)⟩, []), (⟨some 272, .pick (.tmp 268) (.tmp 271) (.cst (.bool false)), none⟩, []), (⟨some 6, .move (.tmp 258), none⟩, []), (⟨some 7, .move (.tmp 265), none⟩, []), (⟨some 8, .move (.tmp 272), none⟩, [])]) (.clr [272, 271, 270, 269, 268, 267, 266, 265, 264, 263, 262, 261, 260, 259, 258, 24, 23, 1])) .ret))) (.seq (.clr [246]) .skip)))))))))))))))))))))))))) (.seq (.seq (.region [⟨some 273, .move (.tmp 0), none⟩, ⟨some 274, .move (.tmp 1), none⟩, ⟨some 6, .move (.tmp 273), none⟩, ⟨some 7, .move (.tmp 274), none⟩, ⟨some 8, .move (.cst (.bool true)), none⟩]) (.clr [274, 273, 1, 0])) .ret)), res := [.tmp 6, .tmp 7, .tmp 8] }
def am17 : AFunc := { nargs := 2, nt := 49, sites := 0, mode := .look, body := .seq (.seq (.region [⟨some 4, .move (.cst (.bool false)), none⟩]) (.clr [4])) (.seq (.seq (.seq (.region [⟨some 5, .move (.tmp 0), none⟩, ⟨some 6, .call 48 [.tmp 5], none⟩, ⟨some 7, .un .not (.tmp 6), none⟩, ⟨some 8, .move (.tmp 7), none⟩, ⟨some 9, .move (.tmp 1), some (8, false)⟩, ⟨some 10, .call 48 [.tmp 9], some (8, false)⟩, ⟨some 11, .un .not (.tmp 10), some (8, false)⟩, ⟨some 12, .pick (.tmp 8) (.cst (.bool true)) (.tmp 11), none⟩]) (.clr [11, 10, 9, 8, 7, 6, 5])) (.cond (.tmp 12) (.seq (.clr [12]) (.seq (.seq (.region [⟨some 13, .move (.tmp 0), none⟩, ⟨some 14, .call 48 [.tmp 13], none⟩, ⟨some 15, .move (.tmp 1), none⟩, ⟨some 16, .call 48 [.tmp 15], none⟩, ⟨some 17, .eqc false false [.b] (.tmp 14) (.tmp 16), none⟩, ⟨some 4, .move (.tmp 17), none⟩]) (.clr [17, 16, 15, 14, 13, 1, 0])) .ret)) (.seq (.clr [12]) .skip))) (.seq (.seq (.region [⟨some 18, .move (.tmp 0), none⟩, ⟨some 19, .nilck (.tmp 18), none⟩, ⟨some 20, .faddr 9 (.tmp 19), none⟩, ⟨some 21, .load none (.tmp 20), none⟩, ⟨some 22, .move (.tmp 1), none⟩, ⟨some 23, .nilck (.tmp 22), none⟩, ⟨some 24, .faddr 9 (.tmp 23), none⟩, ⟨some 25, .load none (.tmp 24), none⟩, ⟨some 26, .bin .eql (.tmp 21) (.tmp 25), none⟩, ⟨some 27, .move (.tmp 26), none⟩, ⟨some 28, .move (.tmp 0), some (27, true)⟩, ⟨some 29, .nilck (.tmp 28), some (27, true)⟩, ⟨some 30, .faddr 1 (.tmp 29), some (27, true)⟩, ⟨some 31, .load (some 8) (.tmp 30), some (27, true)⟩, ⟨some 32, .move (.tmp 1), some (27, true)⟩, ⟨some 33, .nilck (.tmp 32), some (27, true)⟩, ⟨some 34, .faddr 1 (.tmp 33), some (27, true)⟩, ⟨some 35, .load (some 8) (.tmp 34), some (27, true)⟩, ⟨some 36, .eqc false true [.i .i64, .i .i64, .i .i64, .i .i64, .i .i64, .i .i64, .i .i64, .i .i64] (.tmp 31) (.tmp 35), some (27, true)⟩, ⟨some 37, .pick (.tmp 27) (.tmp 36) (.cst (.bool false)), none⟩, ⟨some 38, .move (.tmp 37), none⟩, ⟨some 39, .move (.tmp 0), some (38, true)⟩, ⟨some 40, .nilck (.tmp 39), some (38, true)⟩, ⟨some 41, .faddr 0 (.tmp 40), some (38, true)⟩, ⟨some 42, .load none (.tmp 41), some (38, true)⟩, ⟨some 43, .move (.tmp 1), some (38, true)⟩, ⟨some 44, .nilck (.tmp 43), some (38, true)⟩, ⟨some 45, .faddr 0 (.tmp 44), some (38, true)⟩, ⟨some 46, .load none (.tmp 45), some (38, true)⟩, ⟨some 47, .call 49 [.tmp 42, .tmp 46], some (38, true)⟩, ⟨some 48, .pick (.tmp 38) (.tmp 47) (.cst (.bool false)), none⟩, ⟨some 4, .move (.tmp 48), none⟩]) (.clr [48, 47, 46, 45, 44, 43, 42, 41, 40, 39, 38, 37, 36, 35, 34, 33, 32, 31, 30, 29, 28, 27, 26, 25, 24, 23, 22, 21, 20, 19, 18, 1, 0])) .ret)), res := [.tmp 4] }
def am19 : AFunc := { nargs := 2, nt := 21, sites := 0, mode := .look, body := .seq (.seq (.region [⟨some 4, .move (.cst (.int .i64 0)), none⟩, ⟨some 5, .move (.cst (.int .i64 0)), none⟩]) (.clr [5, 4])) (.seq (.block 0 (.seq (.seq (.region [⟨some 7, .move (.tmp 0), none⟩, ⟨some 8, .call 48 [.tmp 7], none⟩, ⟨some 9, .un .not (.tmp 8), none⟩, ⟨some 6, .move (.tmp 9), none⟩]) (.clr [9, 8, 7])) (.cond (.tmp 6) (.seq (.clr [6, 1, 0]) (.seq (.region [⟨some 4, .move (.cst (.int .i64 0)), none⟩, ⟨some 5, .move (.cst (.int .i64 1)), none⟩]) .ret)) (.seq (.clr [6]) (.seq (.seq (.region [⟨some 11, .move (.tmp 0), none⟩, ⟨some 12, .move (.tmp 1), none⟩, ⟨some 13, .call 50 [.tmp 11, .tmp 12], none⟩, ⟨some 14, .un .not (.tmp 13), none⟩, ⟨some 10, .move (.tmp 14), none⟩]) (.clr [14, 13, 12, 11])) (.cond (.tmp 10) (.seq (.clr [10, 1, 0]) (.seq (.region [⟨some 4, .move (.cst (.int .i64 0)), none⟩, ⟨some 5, .move (.cst (.int .i64 2)), none⟩]) .ret)) (.seq (.clr [10]) .skip))))))) (.seq (.seq (.region [⟨some 15, .move (.tmp 0), none⟩, ⟨some 16, .move (.tmp 1), none⟩, ⟨some 17, .nilck (.tmp 15), none⟩, ⟨some 18, .faddr 1 (.tmp 17), none⟩, ⟨some 19, .iaddrA 8 1 (.tmp 18) (.tmp 16), none⟩, ⟨some 20, .load none (.tmp 19), none⟩, ⟨some 4, .move (.tmp 20), none⟩, ⟨some 5, .move (.cst (.int .i64 0)), none⟩]) (.clr [20, 19, 18, 17, 16, 15, 1, 0])) .ret)), res := [.tmp 4, .tmp 5] }
def am20 : AFunc := { nargs := 1, nt := 19, sites := 0, mode := .keep, body := .seq (.seq (.region [⟨some 2, .move (.cst (.bool false)), none⟩]) (.clr [2])) (.seq (.seq (.seq (.region [⟨some 4, .move (.tmp 0), none⟩, ⟨some 5, .call 48 [.tmp 4], none⟩, ⟨some 6, .un .not (.tmp 5), none⟩]) (.clr [5, 4])) (.cond (.tmp 6) (.seq (.clr [6, 0]) (.seq (.region [⟨some 2, .move (.cst (.bool true)), none⟩]) .ret)) (.seq (.clr [6]) .skip))) (.seq (.seq (.region [⟨some 7, .move (.tmp 0), none⟩, ⟨some 8, .nilck (.tmp 7), none⟩, ⟨some 9, .faddr 12 (.tmp 8), none⟩, ⟨some 10, .load none (.tmp 9), none⟩, ⟨some 11, .un .not (.tmp 10), none⟩, ⟨some 3, .move (.tmp 11), none⟩]) (.clr [11, 10, 9, 8, 7])) (.seq (.seq (.region [⟨some 12, .move (.tmp 0), none⟩, ⟨some 13, .move (.tmp 0), none⟩, ⟨some 14, .nilck (.tmp 12), none⟩, ⟨some 15, .faddr 10 (.tmp 14), none⟩, ⟨none, .store 1 (.tmp 15) (.cst (.bool false)), none⟩, ⟨some 16, .nilck (.tmp 13), none⟩, ⟨some 17, .faddr 12 (.tmp 16), none⟩, ⟨none, .store 1 (.tmp 17) (.cst (.bool false)), none⟩]) (.clr [17, 16, 15, 14, 13, 12, 0])) (.seq (.seq (.region [⟨some 18, .move (.tmp 3), none⟩, ⟨some 2, .move (.tmp 18), none⟩]) (.clr [18, 3])) .ret)))), res := [.tmp 2] }
def am21 : AFunc := { nargs := 1, nt := 16, sites := 1, mode := .keep, body := .seq (.seq (.region [⟨some 2, .move (.cst .nilp), none⟩]) (.clr [2])) (.seq (.seq (.seq (.region [⟨some 4, .move (.tmp 0), none⟩, ⟨some 5, .call 48 [.tmp 4], none⟩, ⟨some 6, .un .not (.tmp 5), none⟩]) (.clr [5, 4])) (.cond (.tmp 6) (.seq (.clr [6, 0]) (.seq (.region [⟨some 2, .move (.cst .nilp), none⟩]) .ret)) (.seq (.clr [6]) .skip))) (.seq (.seq (.region [⟨some 7, .move (.tmp 0), none⟩, ⟨some 8, .nilck (.tmp 7), none⟩, ⟨some 9, .load (some 14) (.tmp 8), none⟩, ⟨some 3, .allocz 0 [.nils, .int .i64 0, .int .i64 0, .int .i64 0, .int .i64 0, .int .i64 0, .int .i64 0, .int .i64 0, .int .i64 0, .int .i64 0, .bool false, .int .i64 0, .bool false, .int .i64 0], none⟩, ⟨none, .store 14 (.tmp 3) (.tmp 9), none⟩]) (.clr [9, 8, 7])) (.seq (.seq (.region [⟨some 10, .move (.tmp 0), none⟩, ⟨some 11, .nilck (.tmp 10), none⟩, ⟨some 12, .faddr 0 (.tmp 11), none⟩, ⟨some 13, .load none (.tmp 12), none⟩, ⟨some 14, .call 51 [.tmp 13], none⟩, ⟨some 15, .faddr 0 (.tmp 3), none⟩, ⟨none, .store 1 (.tmp 15) (.tmp 14), none⟩]) (.clr [15, 14, 13, 12, 11, 10, 0])) (.seq (.seq (.region [⟨some 2, .move (.tmp 3), none⟩]) (.clr [3])) .ret)))), res := [.tmp 2] }
def am22 : AFunc := { nargs := 5, nt := 62, sites := 4, mode := .keep, body := .seq (.seq (.region [⟨some 5, .box 0 (.tmp 0), none⟩, ⟨some 8, .box 1 (.tmp 3), none⟩, ⟨some 10, .move (.cst (.int .i64 0)), none⟩]) (.clr [10, 3, 0])) (.seq (.seq (.region [⟨some 15, .load none (.tmp 5), none⟩, ⟨some 16, .call 48 [.tmp 15], none⟩, ⟨some 17, .move (.tmp 16), none⟩, ⟨some 18, .load none (.tmp 8), some (17, true)⟩, ⟨some 19, .bin .geq (.tmp 18) (.cst (.int .i64 0)), some (17, true)⟩, ⟨some 20, .pick (.tmp 17) (.tmp 19) (.cst (.bool false)), none⟩, ⟨some 21, .move (.tmp 20), none⟩, ⟨some 22, .load none (.tmp 8), some (21, true)⟩, ⟨some 23, .load none (.tmp 5), some (21, true)⟩, ⟨some 24, .nilck (.tmp 23), some (21, true)⟩, ⟨some 25, .faddr 0 (.tmp 24), some (21, true)⟩, ⟨some 26, .load none (.tmp 25), some (21, true)⟩, ⟨some 27, .lenS (.tmp 26), some (21, true)⟩, ⟨some 28, .bin .leq (.tmp 22) (.tmp 27), some (21, true)⟩, ⟨some 29, .pick (.tmp 21) (.tmp 28) (.cst (.bool false)), none⟩, ⟨some 30, .move (.tmp 29), none⟩, ⟨some 31, .move (.tmp 4), some (30, true)⟩, ⟨some 32, .lenS (.tmp 31), some (30, true)⟩, ⟨some 33, .load none (.tmp 5), some (30, true)⟩, ⟨some 34, .nilck (.tmp 33), some (30, true)⟩, ⟨some 35, .faddr 0 (.tmp 34), some (30, true)⟩, ⟨some 36, .load none (.tmp 35), some (30, true)⟩, ⟨some 37, .lenS (.tmp 36), some (30, true)⟩, ⟨some 38, .load none (.tmp 8), some (30, true)⟩, ⟨some 39, .bin .sub (.tmp 37) (.tmp 38), some (30, true)⟩, ⟨some 40, .bin .leq (.tmp 32) (.tmp 39), some (30, true)⟩, ⟨some 41, .pick (.tmp 30) (.tmp 40) (.cst (.bool false)), none⟩, ⟨some 11, .move (.tmp 41), none⟩]) (.clr [41, 40, 39, 38, 37, 36, 35, 34, 33, 32, 31, 30, 29, 28, 27, 26, 25, 24, 23, 22, 21, 20, 19, 18, 17, 16, 15])) (.seq (.seq (.seq (.region [⟨some 42, .load none (.tmp 5), none⟩, ⟨some 43, .move (.tmp 1), none⟩, ⟨some 44, .move (.tmp 2), none⟩, ⟨some 45, .move (.tmp 11), none⟩, ⟨some 46, .call 52 [.tmp 42, .tmp 43, .tmp 44, .tmp 45], none⟩, ⟨some 12, .move (.tmp 46), none⟩]) (.clr [46, 45, 44, 43, 42, 11, 2, 1])) (.seq (.seq (.region [⟨some 47, .move (.tmp 12), none⟩, ⟨some 48, .bin .neq (.tmp 47) (.cst (.int .i64 0)), none⟩]) (.clr [47])) (.cond (.tmp 48) (.seq (.clr [48, 8, 5, 4]) (.seq (.seq (.region [⟨some 49, .move (.tmp 12), none⟩, ⟨some 10, .move (.tmp 49), none⟩]) (.clr [49, 12])) .ret)) (.seq (.clr [48, 12]) .skip)))) (.seq .skip (.seq (.seq (.seq (.region [⟨some 50, .move (.tmp 4), none⟩, ⟨some 51, .lenS (.tmp 50), none⟩, ⟨some 52, .move (.cst (.int .i64 0)), none⟩]) (.clr [4])) (.block 0 (.loop [] [] (.seq (.region [⟨some 53, .bin .lss (.tmp 52) (.tmp 51), none⟩]) (.seq (.cond (.tmp 53) (.seq (.clr [53]) .skip) (.seq (.clr [53, 52, 51, 50, 8, 5]) (.exit 0))) (.seq (.block 1 (.seq (.seq (.region [⟨some 54, .move (.tmp 52), none⟩, ⟨some 55, .iaddrS 64 (.tmp 50) (.tmp 52), none⟩, ⟨some 56, .load (some 64) (.tmp 55), none⟩, ⟨some 13, .allocz 2 [.int .i64 0], none⟩, ⟨some 14, .allocz 3 [.int .u8 0, .int .u8 0, .int .u8 0, .int .u8 0, .int .u8 0, .int .u8 0, .int .u8 0, .int .u8 0, .int .u8 0, .int .u8 0, .int .u8 0, .int .u8 0, .int .u8 0, .int .u8 0, .int .u8 0, .int .u8 0, .int .u8 0, .int .u8 0, .int .u8 0, .int .u8 0, .int .u8 0, .int .u8 0, .int .u8 0, .int .u8 0, .int .u8 0, .int .u8 0, .int .u8 0, .int .u8 0, .int .u8 0, .int .u8 0, .int .u8 0, .int .u8 0, .int .u8 0, .int .u8 0, .int .u8 0, .int .u8 0, .int .u8 0, .int .u8 0, .int .u8 0, .int .u8 0, .int .u8 0, .int .u8 0, .int .u8 0, .int .u8 0, .int .u8 0, .int .u8 0, .int .u8 0, .int .u8 0, .int .u8 0, .int .u8 0, .int .u8 0, .int .u8 0, .int .u8 0, .int .u8 0, .int .u8 0, .int .u8 0, .int .u8 0, .int .u8 0, .int .u8 0, .int .u8 0, .int .u8 0, .int .u8 0, .int .u8 0, .int .u8 0], none⟩, ⟨none, .store 1 (.tmp 13) (.tmp 54), none⟩, ⟨none, .store 64 (.tmp 14) (.tmp 56), none⟩]) (.clr [56, 55, 54])) (.seq (.seq (.region [⟨some 57, .load none (.tmp 5), none⟩, ⟨some 58, .mkfunc 54 [] [.tmp 14, .tmp 5, .tmp 8, .tmp 13], none⟩, ⟨some 59, .call 53 [.tmp 57, .tmp 58], none⟩, ⟨some 60, .un .not (.tmp 59), none⟩]) (.clr [59, 58, 57, 14, 13])) (.cond (.tmp 60) (.seq (.clr [60, 52, 51, 50, 8, 5]) (.exit 0)) (.seq (.clr [60]) .skip))))) (.seq (.region [⟨some 61, .bin .add (.tmp 52) (.cst (.int .i64 1)), none⟩, ⟨some 52, .move (.tmp 61), none⟩]) (.clr [61])))))))) (.seq (.region [⟨some 10, .move (.cst (.int .i64 0)), none⟩]) .ret))))), res := [.tmp 10] }
def am23 : AFunc := { nargs := 1, nt := 13, sites := 2, mode := .pure, body := .seq (.region [⟨some 2, .allocz 0 [.int .u8 0, .int .u8 0, .int .u8 0, .int .u8 0, .int .u8 0, .int .u8 0, .int .u8 0, .int .u8 0, .int .u8 0, .int .u8 0, .int .u8 0, .int .u8 0, .int .u8 0, .int .u8 0, .int .u8 0, .int .u8 0, .int .u8 0, .int .u8 0, .int .u8 0, .int .u8 0, .int .u8 0, .int .u8 0, .int .u8 0, .int .u8 0, .int .u8 0, .int .u8 0, .int .u8 0, .int .u8 0, .int .u8 0, .int .u8 0, .int .u8 0, .int .u8 0, .int .u8 0, .int .u8 0, .int .u8 0, .int .u8 0, .int .u8 0, .int .u8 0, .int .u8 0, .int .u8 0, .int .u8 0, .int .u8 0, .int .u8 0, .int .u8 0, .int .u8 0, .int .u8 0, .int .u8 0, .int .u8 0, .int .u8 0, .int .u8 0, .int .u8 0, .int .u8 0, .int .u8 0, .int .u8 0, .int .u8 0, .int .u8 0, .int .u8 0, .int .u8 0, .int .u8 0, .int .u8 0, .int .u8 0, .int .u8 0, .int .u8 0, .int .u8 0], none⟩]) (.seq (.region [⟨some 3, .allocz 1 [.int .u8 0, .int .u8 0, .int .u8 0, .int .u8 0, .int .u8 0, .int .u8 0, .int .u8 0, .int .u8 0, .int .u8 0, .int .u8 0, .int .u8 0, .int .u8 0, .int .u8 0, .int .u8 0, .int .u8 0, .int .u8 0, .int .u8 0, .int .u8 0, .int .u8 0, .int .u8 0, .int .u8 0, .int .u8 0, .int .u8 0, .int .u8 0, .int .u8 0, .int .u8 0, .int .u8 0, .int .u8 0, .int .u8 0, .int .u8 0, .int .u8 0, .int .u8 0, .int .u8 0, .int .u8 0, .int .u8 0, .int .u8 0, .int .u8 0, .int .u8 0, .int .u8 0, .int .u8 0, .int .u8 0, .int .u8 0, .int .u8 0, .int .u8 0, .int .u8 0, .int .u8 0, .int .u8 0, .int .u8 0, .int .u8 0, .int .u8 0, .int .u8 0, .int .u8 0, .int .u8 0, .int .u8 0, .int .u8 0, .int .u8 0, .int .u8 0, .int .u8 0, .int .u8 0, .int .u8 0, .int .u8 0, .int .u8 0, .int .u8 0, .int .u8 0], none⟩]) (.seq (.seq (.region [⟨some 4, .move (.cst (.int .i64 0)), none⟩]) (.block 0 (.loop [] [] (.seq (.seq (.seq (.region [⟨some 5, .move (.tmp 4), none⟩, ⟨some 6, .bin .lss (.tmp 5) (.cst (.int .i64 64)), none⟩]) (.clr [5])) (.cond (.tmp 6) (.seq (.clr [6]) .skip) (.seq (.clr [6, 4, 0]) (.exit 0)))) (.seq (.block 1 (.seq (.region [⟨some 9, .move (.tmp 4), none⟩, ⟨some 10, .move (.tmp 0), none⟩, ⟨some 11, .iaddrA 64 1 (.tmp 3) (.tmp 9), none⟩, ⟨none, .store 1 (.tmp 11) (.tmp 10), none⟩]) (.clr [11, 10, 9]))) (.seq (.region [⟨some 7, .move (.tmp 4), none⟩, ⟨some 8, .bin .add (.tmp 7) (.cst (.int .i64 1)), none⟩, ⟨some 4, .move (.tmp 8), none⟩]) (.clr [8, 7]))))))) (.seq (.seq (.region [⟨some 12, .load (some 64) (.tmp 3), none⟩, ⟨none, .store 64 (.tmp 2) (.tmp 12), none⟩]) (.clr [12, 3])) .ret))), res := [.cell 2 (some 64)] }
def am24 : AFunc := { nargs := 5, nt := 45, sites := 3, mode := .keep, body := .seq (.seq (.region [⟨some 5, .box 0 (.tmp 0), none⟩, ⟨some 8, .box 1 (.tmp 3), none⟩, ⟨some 9, .box 2 (.tmp 4), none⟩, ⟨some 10, .move (.cst (.int .i64 0)), none⟩]) (.clr [10, 4, 3, 0])) (.seq (.seq (.seq (.region [⟨some 12, .load none (.tmp 5), none⟩, ⟨some 13, .move (.tmp 1), none⟩, ⟨some 14, .move (.tmp 2), none⟩, ⟨some 15, .load none (.tmp 5), none⟩, ⟨some 16, .call 48 [.tmp 15], none⟩, ⟨some 17, .move (.tmp 16), none⟩, ⟨some 18, .load none (.tmp 5), some (17, true)⟩, ⟨some 19, .load none (.tmp 8), some (17, true)⟩, ⟨some 20, .call 50 [.tmp 18, .tmp 19], some (17, true)⟩, ⟨some 21, .pick (.tmp 17) (.tmp 20) (.cst (.bool false)), none⟩, ⟨some 22, .move (.tmp 21), none⟩, ⟨some 23, .load none (.tmp 9), some (22, true)⟩, ⟨some 24, .bin .geq (.tmp 23) (.cst (.int .i64 0)), some (22, true)⟩, ⟨some 25, .pick (.tmp 22) (.tmp 24) (.cst (.bool false)), none⟩, ⟨some 26, .move (.tmp 25), none⟩, ⟨some 27, .load none (.tmp 9), some (26, true)⟩, ⟨some 28, .bin .lss (.tmp 27) (.cst (.int .i64 2147483647)), some (26, true)⟩, ⟨some 29, .pick (.tmp 26) (.tmp 28) (.cst (.bool false)), none⟩, ⟨some 30, .call 52 [.tmp 12, .tmp 13, .tmp 14, .tmp 29], none⟩, ⟨some 11, .move (.tmp 30), none⟩]) (.clr [30, 29, 28, 27, 26, 25, 24, 23, 22, 21, 20, 19, 18, 17, 16, 15, 14, 13, 12, 2, 1])) (.seq (.seq (.region [⟨some 31, .move (.tmp 11), none⟩, ⟨some 32, .bin .neq (.tmp 31) (.cst (.int .i64 0)), none⟩]) (.clr [31])) (.cond (.tmp 32) (.seq (.clr [32, 9, 8, 5]) (.seq (.seq (.region [⟨some 33, .move (.tmp 11), none⟩, ⟨some 10, .move (.tmp 33), none⟩]) (.clr [33, 11])) .ret)) (.seq (.clr [32, 11]) .skip)))) (.seq (.seq (.seq (.region [⟨some 34, .load none (.tmp 5), none⟩, ⟨some 35, .load none (.tmp 8), none⟩, ⟨some 36, .nilck (.tmp 34), none⟩, ⟨some 37, .faddr 1 (.tmp 36), none⟩, ⟨some 38, .iaddrA 8 1 (.tmp 37) (.tmp 35), none⟩, ⟨some 39, .load none (.tmp 38), none⟩, ⟨some 40, .load none (.tmp 9), none⟩, ⟨some 41, .bin .leq (.tmp 39) (.tmp 40), none⟩]) (.clr [40, 39, 38, 37, 36, 35, 34])) (.cond (.tmp 41) (.seq (.clr [41]) (.seq (.region [⟨some 42, .load none (.tmp 5), none⟩, ⟨some 43, .mkfunc 55 [] [.tmp 9, .tmp 5, .tmp 8], none⟩, ⟨some 44, .call 53 [.tmp 42, .tmp 43], none⟩]) (.clr [44, 43, 42, 9, 8, 5]))) (.seq (.clr [41, 9, 8, 5]) .skip))) (.seq (.region [⟨some 10, .move (.cst (.int .i64 0)), none⟩]) .ret))), res := [.tmp 10] }
def am25 : AFunc := { nargs := 2, nt := 27, sites := 0, mode := .keep, body := .seq (.seq (.region [⟨some 4, .move (.cst (.int .i64 0)), none⟩]) (.clr [4])) (.seq (.block 0 (.seq (.seq (.region [⟨some 6, .move (.tmp 0), none⟩, ⟨some 7, .call 48 [.tmp 6], none⟩, ⟨some 8, .un .not (.tmp 7), none⟩, ⟨some 5, .move (.tmp 8), none⟩]) (.clr [8, 7, 6])) (.cond (.tmp 5) (.seq (.clr [5, 1, 0]) (.seq (.region [⟨some 4, .move (.cst (.int .i64 1)), none⟩]) .ret)) (.seq (.clr [5]) (.seq (.seq (.region [⟨some 10, .move (.tmp 1), none⟩, ⟨some 11, .bin .lss (.tmp 10) (.cst (.int .i64 0)), none⟩, ⟨some 9, .move (.tmp 11), none⟩]) (.clr [11, 10])) (.cond (.tmp 9) (.seq (.clr [9, 1, 0]) (.seq (.region [⟨some 4, .move (.cst (.int .i64 2)), none⟩]) .ret)) (.seq (.clr [9]) (.seq (.seq (.region [⟨some 13, .move (.tmp 0), none⟩, ⟨some 14, .nilck (.tmp 13), none⟩, ⟨some 15, .faddr 10 (.tmp 14), none⟩, ⟨some 16, .load none (.tmp 15), none⟩, ⟨some 12, .move (.tmp 16), none⟩]) (.clr [16, 15, 14, 13])) (.cond (.tmp 12) (.seq (.clr [12, 1, 0]) (.seq (.region [⟨some 4, .move (.cst (.int .i64 9)), none⟩]) .ret)) (.seq (.clr [12]) .skip)))))))))) (.seq (.seq (.region [⟨some 17, .move (.tmp 0), none⟩, ⟨some 18, .move (.tmp 0), none⟩, ⟨some 19, .move (.tmp 0), none⟩, ⟨some 20, .move (.tmp 1), none⟩, ⟨some 21, .nilck (.tmp 17), none⟩, ⟨some 22, .faddr 10 (.tmp 21), none⟩, ⟨none, .store 1 (.tmp 22) (.cst (.bool true)), none⟩, ⟨some 23, .nilck (.tmp 18), none⟩, ⟨some 24, .faddr 11 (.tmp 23), none⟩, ⟨none, .store 1 (.tmp 24) (.tmp 20), none⟩, ⟨some 25, .nilck (.tmp 19), none⟩, ⟨some 26, .faddr 12 (.tmp 25), none⟩, ⟨none, .store 1 (.tmp 26) (.cst (.bool false)), none⟩]) (.clr [26, 25, 24, 23, 22, 21, 20, 19, 18, 17, 1, 0])) (.seq (.region [⟨some 4, .move (.cst (.int .i64 0)), none⟩]) .ret))), res := [.tmp 4] }
def am26 : AFunc := { nargs := 2, nt := 31, sites := 1, mode := .look, body := .seq (.seq (.region [⟨some 4, .allocz 0 [.int .u8 0, .int .u8 0, .int .u8 0, .int .u8 0, .int .u8 0, .int .u8 0, .int .u8 0, .int .u8 0, .int .u8 0, .int .u8 0, .int .u8 0, .int .u8 0, .int .u8 0, .int .u8 0, .int .u8 0, .int .u8 0, .int .u8 0, .int .u8 0, .int .u8 0, .int .u8 0, .int .u8 0, .int .u8 0, .int .u8 0, .int .u8 0, .int .u8 0, .int .u8 0, .int .u8 0, .int .u8 0, .int .u8 0, .int .u8 0, .int .u8 0, .int .u8 0, .int .u8 0, .int .u8 0, .int .u8 0, .int .u8 0, .int .u8 0, .int .u8 0, .int .u8 0, .int .u8 0, .int .u8 0, .int .u8 0, .int .u8 0, .int .u8 0, .int .u8 0, .int .u8 0, .int .u8 0, .int .u8 0, .int .u8 0, .int .u8 0, .int .u8 0, .int .u8 0, .int .u8 0, .int .u8 0, .int .u8 0, .int .u8 0, .int .u8 0, .int .u8 0, .int .u8 0, .int .u8 0, .int .u8 0, .int .u8 0, .int .u8 0, .int .u8 0], none⟩, ⟨some 5, .move (.cst (.int .i64 0)), none⟩]) (.clr [5])) (.seq (.block 0 (.seq (.seq (.region [⟨some 7, .move (.tmp 0), none⟩, ⟨some 8, .call 48 [.tmp 7], none⟩, ⟨some 9, .un .not (.tmp 8), none⟩, ⟨some 6, .move (.tmp 9), none⟩]) (.clr [9, 8, 7])) (.cond (.tmp 6) (.seq (.clr [6, 1, 0]) (.seq (.seq (.region [⟨some 10, .build [.int .u8 0, .int .u8 0, .int .u8 0, .int .u8 0, .int .u8 0, .int .u8 0, .int .u8 0, .int .u8 0, .int .u8 0, .int .u8 0, .int .u8 0, .int .u8 0, .int .u8 0, .int .u8 0, .int .u8 0, .int .u8 0, .int .u8 0, .int .u8 0, .int .u8 0, .int .u8 0, .int .u8 0, .int .u8 0, .int .u8 0, .int .u8 0, .int .u8 0, .int .u8 0, .int .u8 0, .int .u8 0, .int .u8 0, .int .u8 0, .int .u8 0, .int .u8 0, .int .u8 0, .int .u8 0, .int .u8 0, .int .u8 0, .int .u8 0, .int .u8 0, .int .u8 0, .int .u8 0, .int .u8 0, .int .u8 0, .int .u8 0, .int .u8 0, .int .u8 0, .int .u8 0, .int .u8 0, .int .u8 0, .int .u8 0, .int .u8 0, .int .u8 0, .int .u8 0, .int .u8 0, .int .u8 0, .int .u8 0, .int .u8 0, .int .u8 0, .int .u8 0, .int .u8 0, .int .u8 0, .int .u8 0, .int .u8 0, .int .u8 0, .int .u8 0] [], none⟩, ⟨none, .store 64 (.tmp 4) (.tmp 10), none⟩, ⟨some 5, .move (.cst (.int .i64 1)), none⟩]) (.clr [10])) .ret)) (.seq (.clr [6]) (.seq (.seq (.region [⟨some 12, .move (.tmp 1), none⟩, ⟨some 13, .bin .lss (.tmp 12) (.cst (.int .i64 0)), none⟩, ⟨some 14, .move (.tmp 13), none⟩, ⟨some 15, .move (.tmp 1), some (14, false)⟩, ⟨some 16, .move (.tmp 0), some (14, false)⟩, ⟨some 17, .nilck (.tmp 16), some (14, false)⟩, ⟨some 18, .faddr 0 (.tmp 17), some (14, false)⟩, ⟨some 19, .load none (.tmp 18), some (14, false)⟩, ⟨some 20, .lenS (.tmp 19), some (14, false)⟩, ⟨some 21, .bin .geq (.tmp 15) (.tmp 20), some (14, false)⟩, ⟨some 22, .pick (.tmp 14) (.cst (.bool true)) (.tmp 21), none⟩, ⟨some 11, .move (.tmp 22), none⟩]) (.clr [22, 21, 20, 19, 18, 17, 16, 15, 14, 13, 12])) (.cond (.tmp 11) (.seq (.clr [11, 1, 0]) (.seq (.seq (.region [⟨some 23, .build [.int .u8 0, .int .u8 0, .int .u8 0, .int .u8 0, .int .u8 0, .int .u8 0, .int .u8 0, .int .u8 0, .int .u8 0, .int .u8 0, .int .u8 0, .int .u8 0, .int .u8 0, .int .u8 0, .int .u8 0, .int .u8 0, .int .u8 0, .int .u8 0, .int .u8 0, .int .u8 0, .int .u8 0, .int .u8 0, .int .u8 0, .int .u8 0, .int .u8 0, .int .u8 0, .int .u8 0, .int .u8 0, .int .u8 0, .int .u8 0, .int .u8 0, .int .u8 0, .int .u8 0, .int .u8 0, .int .u8 0, .int .u8 0, .int .u8 0, .int .u8 0, .int .u8 0, .int .u8 0, .int .u8 0, .int .u8 0, .int .u8 0, .int .u8 0, .int .u8 0, .int .u8 0, .int .u8 0, .int .u8 0, .int .u8 0, .int .u8 0, .int .u8 0, .int .u8 0, .int .u8 0, .int .u8 0, .int .u8 0, .int .u8 0, .int .u8 0, .int .u8 0, .int .u8 0, .int .u8 0, .int .u8 0, .int .u8 0, .int .u8 0, .int .u8 0] [], none⟩, ⟨none, .store 64 (.tmp 4) (.tmp 23), none⟩, ⟨some 5, .move (.cst (.int .i64 2)), none⟩]) (.clr [23])) .ret)) (.seq (.clr [11]) .skip))))))) (.seq (.seq (.region [⟨some 24, .move (.tmp 0), none⟩, ⟨some 25, .nilck (.tmp 24), none⟩, ⟨some 26, .faddr 0 (.tmp 25), none⟩, ⟨some 27, .load none (.tmp 26), none⟩, ⟨some 28, .move (.tmp 1), none⟩, ⟨some 29, .iaddrS 64 (.tmp 27) (.tmp 28), none⟩, ⟨some 30, .load (some 64) (.tmp 29), none⟩, ⟨none, .store 64 (.tmp 4) (.tmp 30), none⟩, ⟨some 5, .move (.cst (.int .i64 0)), none⟩]) (.clr [30, 29, 28, 27, 26, 25, 24, 1, 0])) .ret)), res := [.cell 4 (some 64), .tmp 5] }
def am27 : AFunc := { nargs := 2, nt := 26, sites := 2, mode := .keep, body := .seq (.seq (.region [⟨some 2, .box 0 (.tmp 0), none⟩, ⟨some 3, .box 1 (.tmp 1), none⟩, ⟨some 4, .move (.cst (.int .i64 0)), none⟩, ⟨some 5, .move (.cst (.int .i64 0)), none⟩]) (.clr [5, 4, 1, 0])) (.seq (.seq (.region [⟨some 9, .load none (.tmp 2), none⟩, ⟨some 10, .load none (.tmp 3), none⟩, ⟨some 11, .call 19 [.tmp 9, .tmp 10], none⟩, ⟨some 8, .move (.tmp 11), none⟩, ⟨some 12, .extract (.tmp 8) 0, none⟩, ⟨some 13, .extract (.tmp 8) 1, none⟩, ⟨some 6, .move (.tmp 12), none⟩, ⟨some 7, .move (.tmp 13), none⟩]) (.clr [13, 12, 11, 10, 9, 8])) (.seq (.block 0 (.seq (.seq (.region [⟨some 15, .move (.tmp 7), none⟩, ⟨some 16, .bin .neq (.tmp 15) (.cst (.int .i64 0)), none⟩, ⟨some 14, .move (.tmp 16), none⟩]) (.clr [16, 15])) (.cond (.tmp 14) (.seq (.clr [14, 6, 3, 2]) (.seq (.seq (.region [⟨some 17, .move (.tmp 7), none⟩, ⟨some 4, .move (.cst (.int .i64 0)), none⟩, ⟨some 5, .move (.tmp 17), none⟩]) (.clr [17, 7])) .ret)) (.seq (.clr [14, 7]) (.seq (.seq (.region [⟨some 19, .move (.tmp 6), none⟩, ⟨some 20, .bin .eql (.tmp 19) (.cst (.int .i64 2147483647)), none⟩, ⟨some 18, .move (.tmp 20), none⟩]) (.clr [20, 19])) (.cond (.tmp 18) (.seq (.clr [18, 6, 3, 2]) (.seq (.region [⟨some 4, .move (.cst (.int .i64 0)), none⟩, ⟨some 5, .move (.cst (.int .i64 5)), none⟩]) .ret)) (.seq (.clr [18]) .skip))))))) (.seq (.seq (.region [⟨some 21, .load none (.tmp 2), none⟩, ⟨some 22, .mkfunc 56 [] [.tmp 2, .tmp 3], none⟩, ⟨some 23, .call 53 [.tmp 21, .tmp 22], none⟩]) (.clr [23, 22, 21, 3, 2])) (.seq (.seq (.region [⟨some 24, .move (.tmp 6), none⟩, ⟨some 25, .bin .add (.tmp 24) (.cst (.int .i64 1)), none⟩, ⟨some 4, .move (.tmp 25), none⟩, ⟨some 5, .move (.cst (.int .i64 0)), none⟩]) (.clr [25, 24, 6])) .ret)))), res := [.tmp 4, .tmp 5] }
def am29 : AFunc := { nargs := 6, nt := 42, sites := 4, mode := .keep, body := .seq (.seq (.region [⟨some 6, .box 0 (.tmp 0), none⟩, ⟨some 9, .box 1 (.tmp 3), none⟩, ⟨some 10, .box 2 (.tmp 4), none⟩, ⟨some 11, .box 3 (.tmp 5), none⟩, ⟨some 12, .move (.cst (.bool false)), none⟩, ⟨some 13, .move (.cst (.int .i64 0)), none⟩]) (.clr [13, 12, 5, 4, 3, 0])) (.seq (.seq (.seq (.region [⟨some 15, .load none (.tmp 6), none⟩, ⟨some 16, .move (.tmp 1), none⟩, ⟨some 17, .move (.tmp 2), none⟩, ⟨some 18, .load none (.tmp 9), none⟩, ⟨some 19, .bin .geq (.tmp 18) (.cst (.int .i64 0)), none⟩, ⟨some 20, .move (.tmp 19), none⟩, ⟨some 21, .load none (.tmp 9), some (20, true)⟩, ⟨some 22, .load none (.tmp 6), some (20, true)⟩, ⟨some 23, .call 32 [.tmp 22], some (20, true)⟩, ⟨some 24, .bin .lss (.tmp 21) (.tmp 23), some (20, true)⟩, ⟨some 25, .pick (.tmp 20) (.tmp 24) (.cst (.bool false)), none⟩, ⟨some 26, .call 52 [.tmp 15, .tmp 16, .tmp 17, .tmp 25], none⟩, ⟨some 14, .move (.tmp 26), none⟩]) (.clr [26, 25, 24, 23, 22, 21, 20, 19, 18, 17, 16, 15, 2, 1])) (.seq (.seq (.region [⟨some 27, .move (.tmp 14), none⟩, ⟨some 28, .bin .neq (.tmp 27) (.cst (.int .i64 0)), none⟩]) (.clr [27])) (.cond (.tmp 28) (.seq (.clr [28, 11, 10, 9, 6]) (.seq (.seq (.region [⟨some 29, .move (.tmp 14), none⟩, ⟨some 12, .move (.cst (.bool false)), none⟩, ⟨some 13, .move (.tmp 29), none⟩]) (.clr [29, 14])) .ret)) (.seq (.clr [28, 14]) .skip)))) (.seq (.seq (.seq (.region [⟨some 30, .load none (.tmp 6), none⟩, ⟨some 31, .nilck (.tmp 30), none⟩, ⟨some 32, .faddr 0 (.tmp 31), none⟩, ⟨some 33, .load none (.tmp 32), none⟩, ⟨some 34, .load none (.tmp 9), none⟩, ⟨some 35, .iaddrS 64 (.tmp 33) (.tmp 34), none⟩, ⟨some 36, .load (some 64) (.tmp 35), none⟩, ⟨some 37, .load (some 64) (.tmp 10), none⟩, ⟨some 38, .eqc true true [.i .u8, .i .u8, .i .u8, .i .u8, .i .u8, .i .u8, .i .u8, .i .u8, .i .u8, .i .u8, .i .u8, .i .u8, .i .u8, .i .u8, .i .u8, .i .u8, .i .u8, .i .u8, .i .u8, .i .u8, .i .u8, .i .u8, .i .u8, .i .u8, .i .u8, .i .u8, .i .u8, .i .u8, .i .u8, .i .u8, .i .u8, .i .u8, .i .u8, .i .u8, .i .u8, .i .u8, .i .u8, .i .u8, .i .u8, .i .u8, .i .u8, .i .u8, .i .u8, .i .u8, .i .u8, .i .u8, .i .u8, .i .u8, .i .u8, .i .u8, .i .u8, .i .u8, .i .u8, .i .u8, .i .u8, .i .u8, .i .u8, .i .u8, .i .u8, .i .u8, .i .u8, .i .u8, .i .u8, .i .u8] (.tmp 36) (.tmp 37), none⟩]) (.clr [37, 36, 35, 34, 33, 32, 31, 30, 10])) (.cond (.tmp 38) (.seq (.clr [38, 11, 9, 6]) (.seq (.region [⟨some 12, .move (.cst (.bool false)), none⟩, ⟨some 13, .move (.cst (.int .i64 0)), none⟩]) .ret)) (.seq (.clr [38]) .skip))) (.seq (.seq (.region [⟨some 39, .load none (.tmp 6), none⟩, ⟨some 40, .mkfunc 57 [] [.tmp 11, .tmp 6, .tmp 9], none⟩, ⟨some 41, .call 53 [.tmp 39, .tmp 40], none⟩]) (.clr [41, 40, 39, 11, 9, 6])) (.seq (.region [⟨some 12, .move (.cst (.bool true)), none⟩, ⟨some 13, .move (.cst (.int .i64 0)), none⟩]) .ret)))), res := [.tmp 12, .tmp 13] }
def am30 : AFunc := { nargs := 2, nt := 9, sites := 0, mode := .keep, body := .seq (.seq (.region [⟨some 4, .move (.cst (.bool false)), none⟩]) (.clr [4])) (.seq (.seq (.region [⟨some 5, .move (.tmp 0), none⟩, ⟨some 6, .move (.tmp 1), none⟩, ⟨some 7, .call 58 [.tmp 5, .tmp 6], none⟩, ⟨some 8, .bin .geq (.tmp 7) (.cst (.int .i64 0)), none⟩, ⟨some 4, .move (.tmp 8), none⟩]) (.clr [8, 7, 6, 5, 1, 0])) .ret), res := [.tmp 4] }
def am31 : AFunc := { nargs := 1, nt := 9, sites := 0, mode := .pure, body := .seq (.seq (.region [⟨some 2, .move (.cst (.bool false)), none⟩]) (.clr [2])) (.seq (.seq (.region [⟨some 3, .move (.tmp 0), none⟩, ⟨some 4, .bin .lss (.tmp 3) (.cst (.int .i64 0)), none⟩, ⟨some 5, .move (.tmp 4), none⟩, ⟨some 6, .move (.tmp 0), some (5, false)⟩, ⟨some 7, .bin .gtr (.tmp 6) (.cst (.int .i64 2147483647)), some (5, false)⟩, ⟨some 8, .pick (.tmp 5) (.cst (.bool true)) (.tmp 7), none⟩, ⟨some 2, .move (.tmp 8), none⟩]) (.clr [8, 7, 6, 5, 4, 3, 0])) .ret), res := [.tmp 2] }
def am32 : AFunc := { nargs := 1, nt := 11, sites := 0, mode := .look, body := .seq (.seq (.region [⟨some 2, .move (.cst (.int .i64 0)), none⟩]) (.clr [2])) (.seq (.seq (.seq (.region [⟨some 3, .move (.tmp 0), none⟩, ⟨some 4, .call 48 [.tmp 3], none⟩, ⟨some 5, .un .not (.tmp 4), none⟩]) (.clr [4, 3])) (.cond (.tmp 5) (.seq (.clr [5, 0]) (.seq (.region [⟨some 2, .move (.cst (.int .i64 0)), none⟩]) .ret)) (.seq (.clr [5]) .skip))) (.seq (.seq (.region [⟨some 6, .move (.tmp 0), none⟩, ⟨some 7, .nilck (.tmp 6), none⟩, ⟨some 8, .faddr 0 (.tmp 7), none⟩, ⟨some 9, .load none (.tmp 8), none⟩, ⟨some 10, .lenS (.tmp 9), none⟩, ⟨some 2, .move (.tmp 10), none⟩]) (.clr [10, 9, 8, 7, 6, 0])) .ret)), res := [.tmp 2] }
def am35 : AFunc := { nargs := 1, nt := 14, sites := 4, mode := .keep, body := .seq (.region [⟨some 2, .move (.cst .nils), none⟩]) (.seq (.region [⟨some 3, .allocz 0 [.nils], none⟩]) (.seq (.seq (.seq (.region [⟨some 6, .move (.tmp 0), none⟩, ⟨some 7, .call 41 [.tmp 6], none⟩]) (.clr [6, 0])) (.block 0 (.rangeF (.tmp 7) [8, 9] (.seq (.region [⟨some 5, .allocz 1 [.int .u8 0, .int .u8 0, .int .u8 0, .int .u8 0, .int .u8 0, .int .u8 0, .int .u8 0, .int .u8 0, .int .u8 0, .int .u8 0, .int .u8 0, .int .u8 0, .int .u8 0, .int .u8 0, .int .u8 0, .int .u8 0, .int .u8 0, .int .u8 0, .int .u8 0, .int .u8 0, .int .u8 0, .int .u8 0, .int .u8 0, .int .u8 0, .int .u8 0, .int .u8 0, .int .u8 0, .int .u8 0, .int .u8 0, .int .u8 0, .int .u8 0, .int .u8 0, .int .u8 0, .int .u8 0, .int .u8 0, .int .u8 0, .int .u8 0, .int .u8 0, .int .u8 0, .int .u8 0, .int .u8 0, .int .u8 0, .int .u8 0, .int .u8 0, .int .u8 0, .int .u8 0, .int .u8 0, .int .u8 0, .int .u8 0, .int .u8 0, .int .u8 0, .int .u8 0, .int .u8 0, .int .u8 0, .int .u8 0, .int .u8 0, .int .u8 0, .int .u8 0, .int .u8 0, .int .u8 0, .int .u8 0, .int .u8 0, .int .u8 0, .int .u8 0], none⟩, ⟨none, .store 64 (.tmp 5) (.tmp 9), none⟩]) (.clr [9])) (.block 1 (.seq (.region [⟨some 10, .load none (.tmp 3), none⟩, ⟨some 11, .slA 64 1 (.tmp 5) none none none, none⟩, ⟨some 12, .append 2 1 1 (.tmp 10) (.tmp 11), none⟩, ⟨none, .store 1 (.tmp 3) (.tmp 12), none⟩]) (.clr [12, 11, 10, 5, 3]))) 35 0 3))) (.seq (.seq (.region [⟨some 13, .load none (.tmp 3), none⟩, ⟨some 2, .move (.tmp 13), none⟩]) (.clr [13, 3])) .ret))), res := [.tmp 2] }
def am36 : AFunc := { nargs := 1, nt := 36, sites := 2, mode := .keep, body := .seq (.seq (.region [⟨some 2, .move (.cst .nils), none⟩]) (.clr [2])) (.seq (.region [⟨some 3, .move (.cst .nils), none⟩]) (.seq (.seq (.region [⟨some 4, .move (.cst (.int .i64 0)), none⟩]) (.block 0 (.loop [] [] (.seq (.seq (.seq (.region [⟨some 6, .move (.tmp 0), none⟩, ⟨some 7, .eqnil true (NK.p) (.tmp 6), none⟩, ⟨some 8, .move (.tmp 7), none⟩, ⟨some 9, .move (.tmp 4), some (8, true)⟩, ⟨some 10, .move (.tmp 0), some (8, true)⟩, ⟨some 11, .nilck (.tmp 10), some (8, true)⟩, ⟨some 12, .faddr 0 (.tmp 11), some (8, true)⟩, ⟨some 13, .load none (.tmp 12), some (8, true)⟩, ⟨some 14, .lenS (.tmp 13), some (8, true)⟩, ⟨some 15, .bin .lss (.tmp 9) (.tmp 14), some (8, true)⟩, ⟨some 16, .pick (.tmp 8) (.tmp 15) (.cst (.bool false)), none⟩]) (.clr [15, 14, 13, 12, 11, 10, 9, 8, 7, 6])) (.cond (.tmp 16) (.seq (.clr [16]) .skip) (.seq (.clr [16, 4, 0]) (.exit 0)))) (.seq (.block 1 (.seq (.region [⟨some 5, .move (.cst (.int .i64 0)), none⟩]) (.block 2 (.loop [] [] (.seq (.seq (.seq (.region [⟨some 19, .move (.tmp 5), none⟩, ⟨some 20, .bin .lss (.tmp 19) (.cst (.int .i64 64)), none⟩]) (.clr [19])) (.cond (.tmp 20) (.seq (.clr [20]) .skip) (.seq (.clr [20, 5]) (.exit 2)))) (.seq (.block 3 (.seq (.region [⟨some 23, .move (.tmp 3), none⟩, ⟨some 24, .move (.tmp 0), none⟩, ⟨some 25, .nilck (.tmp 24), none⟩, ⟨some 26, .faddr 0 (.tmp 25), none⟩, ⟨some 27, .load none (.tmp 26), none⟩, ⟨some 28, .move (.tmp 4), none⟩, ⟨some 29, .move (.tmp 5), none⟩, ⟨some 30, .iaddrS 64 (.tmp 27) (.tmp 28), none⟩, ⟨some 31, .iaddrA 64 1 (.tmp 30) (.tmp 29), none⟩, ⟨some 32, .load none (.tmp 31), none⟩, ⟨some 33, .bnew 0 [.int .u8 0] 1 1 [(0, 1, .tmp 32)], none⟩, ⟨some 34, .append 1 1 1 (.tmp 23) (.tmp 33), none⟩, ⟨some 3, .move (.tmp 34), none⟩]) (.clr [34, 33, 32, 31, 30, 29, 28, 27, 26, 25, 24, 23]))) (.seq (.region [⟨some 21, .move (.tmp 5), none⟩, ⟨some 22, .bin .add (.tmp 21) (.cst (.int .i64 1)), none⟩, ⟨some 5, .move (.tmp 22), none⟩]) (.clr [22, 21])))))))) (.seq (.region [⟨some 17, .move (.tmp 4), none⟩, ⟨some 18, .bin .add (.tmp 17) (.cst (.int .i64 1)), none⟩, ⟨some 4, .move (.tmp 18), none⟩]) (.clr [18, 17]))))))) (.seq (.seq (.region [⟨some 35, .move (.tmp 3), none⟩, ⟨some 2, .move (.tmp 35), none⟩]) (.clr [35, 3])) .ret))), res := [.tmp 2] }
def am37 : AFunc := { nargs := 2, nt := 26, sites := 0, mode := .look, body := .seq (.seq (.region [⟨some 4, .move (.cst (.int .i64 0)), none⟩, ⟨some 5, .move (.cst (.int .i64 0)), none⟩]) (.clr [5, 4])) (.seq (.seq (.seq (.region [⟨some 6, .move (.tmp 0), none⟩, ⟨some 7, .eqnil false (NK.p) (.tmp 6), none⟩]) (.clr [6])) (.cond (.tmp 7) (.seq (.clr [7, 1, 0]) (.seq (.region [⟨some 4, .move (.cst (.int .i64 0)), none⟩, ⟨some 5, .move (.cst (.int .i64 1)), none⟩]) .ret)) (.seq (.clr [7]) .skip))) (.seq (.seq (.seq (.region [⟨some 8, .move (.tmp 1), none⟩, ⟨some 9, .bin .lss (.tmp 8) (.cst (.int .i64 0)), none⟩, ⟨some 10, .move (.tmp 9), none⟩, ⟨some 11, .move (.tmp 1), some (10, false)⟩, ⟨some 12, .move (.tmp 0), some (10, false)⟩, ⟨some 13, .nilck (.tmp 12), some (10, false)⟩, ⟨some 14, .faddr 1 (.tmp 13), some (10, false)⟩, ⟨some 15, .load none (.tmp 14), some (10, false)⟩, ⟨some 16, .lenS (.tmp 15), some (10, false)⟩, ⟨some 17, .bin .geq (.tmp 11) (.tmp 16), some (10, false)⟩, ⟨some 18, .pick (.tmp 10) (.cst (.bool true)) (.tmp 17), none⟩]) (.clr [17, 16, 15, 14, 13, 12, 11, 10, 9, 8])) (.cond (.tmp 18) (.seq (.clr [18, 1, 0]) (.seq (.region [⟨some 4, .move (.cst (.int .i64 0)), none⟩, ⟨some 5, .move (.cst (.int .i64 2)), none⟩]) .ret)) (.seq (.clr [18]) .skip))) (.seq (.seq (.region [⟨some 19, .move (.tmp 0), none⟩, ⟨some 20, .nilck (.tmp 19), none⟩, ⟨some 21, .faddr 1 (.tmp 20), none⟩, ⟨some 22, .load none (.tmp 21), none⟩, ⟨some 23, .move (.tmp 1), none⟩, ⟨some 24, .iaddrS 1 (.tmp 22) (.tmp 23), none⟩, ⟨some 25, .load none (.tmp 24), none⟩, ⟨some 4, .move (.tmp 25), none⟩, ⟨some 5, .move (.cst (.int .i64 0)), none⟩]) (.clr [25, 24, 23, 22, 21, 20, 19, 1, 0])) .ret))), res := [.tmp 4, .tmp 5] }
def am41 : AFunc := { nargs := 1, nt := 4, sites := 1, mode := .keep, body := .seq (.seq (.region [⟨some 1, .box 0 (.tmp 0), none⟩, ⟨some 2, .move (.cst .nilf), none⟩]) (.clr [2, 0])) (.seq (.seq (.region [⟨some 3, .mkfunc 59 [] [.tmp 1], none⟩, ⟨some 2, .move (.tmp 3), none⟩]) (.clr [3, 1])) .ret), res := [.tmp 2] }
def am42 : AFunc := { nargs := 5, nt := 73, sites := 0, mode := .keep, body := .seq (.seq (.region [⟨some 10, .move (.cst (.int .i64 0)), none⟩]) (.clr [10])) (.seq (.seq (.seq (.region [⟨some 12, .move (.tmp 0), none⟩, ⟨some 13, .eqnil false (NK.p) (.tmp 12), none⟩]) (.clr [12])) (.cond (.tmp 13) (.seq (.clr [13, 4, 3, 2, 1, 0]) (.seq (.region [⟨some 10, .move (.cst (.int .i64 1)), none⟩]) .ret)) (.seq (.clr [13]) .skip))) (.seq (.seq (.seq (.region [⟨some 14, .move (.tmp 0), none⟩, ⟨some 15, .move (.tmp 1), none⟩, ⟨some 16, .move (.tmp 2), none⟩, ⟨some 17, .call 60 [.tmp 14, .tmp 15, .tmp 16], none⟩, ⟨some 18, .bin .neq (.tmp 17) (.cst (.int .i64 0)), none⟩, ⟨some 19, .move (.tmp 18), none⟩, ⟨some 20, .move (.tmp 3), some (19, false)⟩, ⟨some 21, .bin .lss (.tmp 20) (.cst (.int .i64 0)), some (19, false)⟩, ⟨some 22, .pick (.tmp 19) (.cst (.bool true)) (.tmp 21), none⟩, ⟨some 23, .move (.tmp 22), none⟩, ⟨some 24, .move (.tmp 3), some (23, false)⟩, ⟨some 25, .move (.tmp 0), some (23, false)⟩, ⟨some 26, .nilck (.tmp 25), some (23, false)⟩, ⟨some 27, .faddr 0 (.tmp 26), some (23, false)⟩, ⟨some 28, .load none (.tmp 27), some (23, false)⟩, ⟨some 29, .lenS (.tmp 28), some (23, false)⟩, ⟨some 30, .bin .gtr (.tmp 24) (.tmp 29), some (23, false)⟩, ⟨some 31, .pick (.tmp 23) (.cst (.bool true)) (.tmp 30), none⟩, ⟨some 32, .move (.tmp 31), none⟩, ⟨some 33, .move (.tmp 4), some (32, false)⟩, ⟨some 34, .lenS (.tmp 33), some (32, false)⟩, ⟨some 35, .move (.tmp 0), some (32, false)⟩, ⟨some 36, .nilck (.tmp 35), some (32, false)⟩, ⟨some 37, .faddr 0 (.tmp 36), some (32, false)⟩, ⟨some 38, .load none (.tmp 37), some (32, false)⟩, ⟨some 39, .lenS (.tmp 38), some (32, false)⟩, ⟨some 40, .move (.tmp 3), some (32, false)⟩, ⟨some 41, .bin .sub (.tmp 39) (.tmp 40), some (32, false)⟩, ⟨some 42, .bin .gtr (.tmp 34) (.tmp 41), some (32, false)⟩, ⟨some 43, .pick (.tmp 32) (.cst (.bool true)) (.tmp 42), none⟩]) (.clr [42, 41, 40, 39, 38, 37, 36, 35, 34, 33, 32, 31, 30, 29, 28, 27, 26, 25, 24, 23, 22, 21, 20, 19, 18, 17, 16, 15, 14])) (.cond (.tmp 43) (.seq (.clr [43, 4, 3, 2, 1, 0]) (.seq (.region [⟨some 10, .move (.cst (.int .i64 2)), none⟩]) .ret)) (.seq (.clr [43]) .skip))) (.seq (.seq (.seq (.region [⟨some 44, .move (.tmp 2), none⟩, ⟨some 45, .move (.tmp 0), none⟩, ⟨some 46, .nilck (.tmp 45), none⟩, ⟨some 47, .faddr 1 (.tmp 46), none⟩, ⟨some 48, .load none (.tmp 47), none⟩, ⟨some 49, .move (.tmp 1), none⟩, ⟨some 50, .iaddrS 1 (.tmp 48) (.tmp 49), none⟩, ⟨some 51, .load none (.tmp 50), none⟩, ⟨some 52, .bin .lss (.tmp 44) (.tmp 51), none⟩]) (.clr [51, 50, 49, 48, 47, 46, 45, 44, 2, 1])) (.cond (.tmp 52) (.seq (.clr [52, 4, 3, 0]) (.seq (.region [⟨some 10, .move (.cst (.int .i64 8)), none⟩]) .ret)) (.seq (.clr [52]) .skip))) (.seq (.seq (.region [⟨some 11, .move (.cst (.int .i64 0)), none⟩]) (.block 0 (.loop [] [] (.seq (.seq (.seq (.region [⟨some 53, .move (.tmp 11), none⟩, ⟨some 54, .move (.tmp 4), none⟩, ⟨some 55, .lenS (.tmp 54), none⟩, ⟨some 56, .bin .lss (.tmp 53) (.tmp 55), none⟩]) (.clr [55, 54, 53])) (.cond (.tmp 56) (.seq (.clr [56]) .skip) (.seq (.clr [56, 11, 4, 3, 0]) (.exit 0)))) (.seq (.block 1 (.seq (.seq (.region [⟨some 59, .move (.tmp 0), none⟩, ⟨some 60, .call 61 [.tmp 59], none⟩]) (.clr [59])) (.cond (.tmp 60) (.seq (.clr [60]) (.seq (.region [⟨some 61, .move (.tmp 0), none⟩, ⟨some 62, .nilck (.tmp 61), none⟩, ⟨some 63, .faddr 0 (.tmp 62), none⟩, ⟨some 64, .load none (.tmp 63), none⟩, ⟨some 65, .move (.tmp 3), none⟩, ⟨some 66, .move (.tmp 11), none⟩, ⟨some 67, .bin .add (.tmp 65) (.tmp 66), none⟩, ⟨some 68, .move (.tmp 4), none⟩, ⟨some 69, .move (.tmp 11), none⟩, ⟨some 70, .iaddrS 64 (.tmp 68) (.tmp 69), none⟩, ⟨some 71, .load (some 64) (.tmp 70), none⟩, ⟨some 72, .iaddrS 64 (.tmp 64) (.tmp 67), none⟩, ⟨none, .store 64 (.tmp 72) (.tmp 71), none⟩]) (.clr [72, 71, 70, 69, 68, 67, 66, 65, 64, 63, 62, 61]))) (.seq (.clr [60]) .skip)))) (.seq (.region [⟨some 57, .move (.tmp 11), none⟩, ⟨some 58, .bin .add (.tmp 57) (.cst (.int .i64 1)), none⟩, ⟨some 11, .move (.tmp 58), none⟩]) (.clr [58, 57]))))))) (.seq (.region [⟨some 10, .move (.cst (.int .i64 0)), none⟩]) .ret))))), res := [.tmp 10] }
def am43 : AFunc := { nargs := 6, nt := 61, sites := 2, mode := .keep, body := .seq (.seq (.region [⟨some 10, .box 0 (.tmp 4), none⟩, ⟨some 11, .box 1 (.tmp 5), none⟩, ⟨some 12, .move (.cst (.bool false)), none⟩, ⟨some 13, .move (.cst (.int .i64 0)), none⟩]) (.clr [13, 12, 5, 4])) (.seq (.seq (.seq (.region [⟨some 14, .move (.tmp 0), none⟩, ⟨some 15, .eqnil false (NK.p) (.tmp 14), none⟩]) (.clr [14])) (.cond (.tmp 15) (.seq (.clr [15, 11, 10, 3, 2, 1, 0]) (.seq (.region [⟨some 12, .move (.cst (.bool false)), none⟩, ⟨some 13, .move (.cst (.int .i64 1)), none⟩]) .ret)) (.seq (.clr [15]) .skip))) (.seq (.seq (.seq (.region [⟨some 16, .move (.tmp 0), none⟩, ⟨some 17, .move (.tmp 1), none⟩, ⟨some 18, .move (.tmp 2), none⟩, ⟨some 19, .call 60 [.tmp 16, .tmp 17, .tmp 18], none⟩, ⟨some 20, .bin .neq (.tmp 19) (.cst (.int .i64 0)), none⟩, ⟨some 21, .move (.tmp 20), none⟩, ⟨some 22, .move (.tmp 3), some (21, false)⟩, ⟨some 23, .bin .lss (.tmp 22) (.cst (.int .i64 0)), some (21, false)⟩, ⟨some 24, .pick (.tmp 21) (.cst (.bool true)) (.tmp 23), none⟩, ⟨some 25, .move (.tmp 24), none⟩, ⟨some 26, .move (.tmp 3), some (25, false)⟩, ⟨some 27, .move (.tmp 0), some (25, false)⟩, ⟨some 28, .nilck (.tmp 27), some (25, false)⟩, ⟨some 29, .faddr 0 (.tmp 28), some (25, false)⟩, ⟨some 30, .load none (.tmp 29), some (25, false)⟩, ⟨some 31, .lenS (.tmp 30), some (25, false)⟩, ⟨some 32, .bin .geq (.tmp 26) (.tmp 31), some (25, false)⟩, ⟨some 33, .pick (.tmp 25) (.cst (.bool true)) (.tmp 32), none⟩]) (.clr [32, 31, 30, 29, 28, 27, 26, 25, 24, 23, 22, 21, 20, 19, 18, 17, 16])) (.cond (.tmp 33) (.seq (.clr [33, 11, 10, 3, 2, 1, 0]) (.seq (.region [⟨some 12, .move (.cst (.bool false)), none⟩, ⟨some 13, .move (.cst (.int .i64 2)), none⟩]) .ret)) (.seq (.clr [33]) .skip))) (.seq (.seq (.seq (.region [⟨some 34, .move (.tmp 2), none⟩, ⟨some 35, .move (.tmp 0), none⟩, ⟨some 36, .nilck (.tmp 35), none⟩, ⟨some 37, .faddr 1 (.tmp 36), none⟩, ⟨some 38, .load none (.tmp 37), none⟩, ⟨some 39, .move (.tmp 1), none⟩, ⟨some 40, .iaddrS 1 (.tmp 38) (.tmp 39), none⟩, ⟨some 41, .load none (.tmp 40), none⟩, ⟨some 42, .bin .lss (.tmp 34) (.tmp 41), none⟩]) (.clr [41, 40, 39, 38, 37, 36, 35, 34, 2, 1])) (.cond (.tmp 42) (.seq (.clr [42, 11, 10, 3, 0]) (.seq (.region [⟨some 12, .move (.cst (.bool false)), none⟩, ⟨some 13, .move (.cst (.int .i64 8)), none⟩]) .ret)) (.seq (.clr [42]) .skip))) (.seq (.seq (.seq (.region [⟨some 43, .move (.tmp 0), none⟩, ⟨some 44, .nilck (.tmp 43), none⟩, ⟨some 45, .faddr 0 (.tmp 44), none⟩, ⟨some 46, .load none (.tmp 45), none⟩, ⟨some 47, .move (.tmp 3), none⟩, ⟨some 48, .iaddrS 64 (.tmp 46) (.tmp 47), none⟩, ⟨some 49, .load (some 64) (.tmp 48), none⟩, ⟨some 50, .load (some 64) (.tmp 10), none⟩, ⟨some 51, .eqc true true [.i .u8, .i .u8, .i .u8, .i .u8, .i .u8, .i .u8, .i .u8, .i .u8, .i .u8, .i .u8, .i .u8, .i .u8, .i .u8, .i .u8, .i .u8, .i .u8, .i .u8, .i .u8, .i .u8, .i .u8, .i .u8, .i .u8, .i .u8, .i .u8, .i .u8, .i .u8, .i .u8, .i .u8, .i .u8, .i .u8, .i .u8, .i .u8, .i .u8, .i .u8, .i .u8, .i .u8, .i .u8, .i .u8, .i .u8, .i .u8, .i .u8, .i .u8, .i .u8, .i .u8, .i .u8, .i .u8, .i .u8, .i .u8, .i .u8, .i .u8, .i .u8, .i .u8, .i .u8, .i .u8, .i .u8, .i .u8, .i .u8, .i .u8, .i .u8, .i .u8, .i .u8, .i .u8, .i .u8, .i .u8] (.tmp 49) (.tmp 50), none⟩]) (.clr [50, 49, 48, 47, 46, 45, 44, 43, 10])) (.cond (.tmp 51) (.seq (.clr [51, 11, 3, 0]) (.seq (.region [⟨some 12, .move (.cst (.bool false)), none⟩, ⟨some 13, .move (.cst (.int .i64 0)), none⟩]) .ret)) (.seq (.clr [51]) .skip))) (.seq (.seq (.seq (.region [⟨some 52, .move (.tmp 0), none⟩, ⟨some 53, .call 61 [.tmp 52], none⟩]) (.clr [52])) (.cond (.tmp 53) (.seq (.clr [53]) (.seq (.region [⟨some 54, .move (.tmp 0), none⟩, ⟨some 55, .nilck (.tmp 54), none⟩, ⟨some 56, .faddr 0 (.tmp 55), none⟩, ⟨some 57, .load none (.tmp 56), none⟩, ⟨some 58, .move (.tmp 3), none⟩, ⟨some 59, .load (some 64) (.tmp 11), none⟩, ⟨some 60, .iaddrS 64 (.tmp 57) (.tmp 58), none⟩, ⟨none, .store 64 (.tmp 60) (.tmp 59), none⟩]) (.clr [60, 59, 58, 57, 56, 55, 54, 11, 3, 0]))) (.seq (.clr [53, 11, 3, 0]) .skip))) (.seq (.region [⟨some 12, .move (.cst (.bool true)), none⟩, ⟨some 13, .move (.cst (.int .i64 0)), none⟩]) .ret)))))), res := [.tmp 12, .tmp 13] }
def am44 : AFunc := { nargs := 2, nt := 31, sites := 0, mode := .keep, body := .seq (.seq (.region [⟨some 4, .move (.cst (.int .i64 0)), none⟩, ⟨some 5, .move (.cst (.int .i64 0)), none⟩]) (.clr [5, 4])) (.seq (.seq (.region [⟨some 9, .move (.tmp 0), none⟩, ⟨some 10, .move (.tmp 1), none⟩, ⟨some 11, .call 37 [.tmp 9, .tmp 10], none⟩, ⟨some 8, .move (.tmp 11), none⟩, ⟨some 12, .extract (.tmp 8) 0, none⟩, ⟨some 13, .extract (.tmp 8) 1, none⟩, ⟨some 6, .move (.tmp 12), none⟩, ⟨some 7, .move (.tmp 13), none⟩]) (.clr [13, 12, 11, 10, 9, 8])) (.seq (.seq (.seq (.region [⟨some 14, .move (.tmp 7), none⟩, ⟨some 15, .bin .neq (.tmp 14) (.cst (.int .i64 0)), none⟩]) (.clr [14])) (.cond (.tmp 15) (.seq (.clr [15, 6, 1, 0]) (.seq (.seq (.region [⟨some 16, .move (.tmp 7), none⟩, ⟨some 4, .move (.cst (.int .i64 0)), none⟩, ⟨some 5, .move (.tmp 16), none⟩]) (.clr [16, 7])) .ret)) (.seq (.clr [15, 7]) .skip))) (.seq (.seq (.seq (.region [⟨some 17, .move (.tmp 6), none⟩, ⟨some 18, .bin .eql (.tmp 17) (.cst (.int .i64 2147483647)), none⟩]) (.clr [17])) (.cond (.tmp 18) (.seq (.clr [18, 6, 1, 0]) (.seq (.region [⟨some 4, .move (.cst (.int .i64 0)), none⟩, ⟨some 5, .move (.cst (.int .i64 5)), none⟩]) .ret)) (.seq (.clr [18]) .skip))) (.seq (.seq (.seq (.region [⟨some 19, .move (.tmp 0), none⟩, ⟨some 20, .call 61 [.tmp 19], none⟩]) (.clr [19])) (.cond (.tmp 20) (.seq (.clr [20]) (.seq (.region [⟨some 21, .move (.tmp 0), none⟩, ⟨some 22, .nilck (.tmp 21), none⟩, ⟨some 23, .faddr 1 (.tmp 22), none⟩, ⟨some 24, .load none (.tmp 23), none⟩, ⟨some 25, .move (.tmp 1), none⟩, ⟨some 26, .move (.tmp 6), none⟩, ⟨some 27, .bin .add (.tmp 26) (.cst (.int .i64 1)), none⟩, ⟨some 28, .iaddrS 1 (.tmp 24) (.tmp 25), none⟩, ⟨none, .store 1 (.tmp 28) (.tmp 27), none⟩]) (.clr [28, 27, 26, 25, 24, 23, 22, 21, 1, 0]))) (.seq (.clr [20, 1, 0]) .skip))) (.seq (.seq (.region [⟨some 29, .move (.tmp 6), none⟩, ⟨some 30, .bin .add (.tmp 29) (.cst (.int .i64 1)), none⟩, ⟨some 4, .move (.tmp 30), none⟩, ⟨some 5, .move (.cst (.int .i64 0)), none⟩]) (.clr [30, 29, 6])) .ret))))), res := [.tmp 4, .tmp 5] }
def am45 : AFunc := { nargs := 5, nt := 69, sites := 0, mode := .keep, body := .seq (.seq (.region [⟨some 10, .move (.cst (.int .i64 0)), none⟩]) (.clr [10])) (.seq (.seq (.seq (.region [⟨some 11, .move (.tmp 0), none⟩, ⟨some 12, .eqnil false (NK.p) (.tmp 11), none⟩]) (.clr [11])) (.cond (.tmp 12) (.seq (.clr [12, 4, 3, 2, 1, 0]) (.seq (.region [⟨some 10, .move (.cst (.int .i64 1)), none⟩]) .ret)) (.seq (.clr [12]) .skip))) (.seq (.seq (.seq (.region [⟨some 13, .move (.tmp 0), none⟩, ⟨some 14, .move (.tmp 1), none⟩, ⟨some 15, .move (.tmp 2), none⟩, ⟨some 16, .call 60 [.tmp 13, .tmp 14, .tmp 15], none⟩, ⟨some 17, .bin .neq (.tmp 16) (.cst (.int .i64 0)), none⟩, ⟨some 18, .move (.tmp 17), none⟩, ⟨some 19, .move (.tmp 3), some (18, false)⟩, ⟨some 20, .bin .lss (.tmp 19) (.cst (.int .i64 0)), some (18, false)⟩, ⟨some 21, .pick (.tmp 18) (.cst (.bool true)) (.tmp 20), none⟩, ⟨some 22, .move (.tmp 21), none⟩, ⟨some 23, .move (.tmp 3), some (22, false)⟩, ⟨some 24, .move (.tmp 0), some (22, false)⟩, ⟨some 25, .nilck (.tmp 24), some (22, false)⟩, ⟨some 26, .faddr 1 (.tmp 25), some (22, false)⟩, ⟨some 27, .load none (.tmp 26), some (22, false)⟩, ⟨some 28, .lenS (.tmp 27), some (22, false)⟩, ⟨some 29, .bin .geq (.tmp 23) (.tmp 28), some (22, false)⟩, ⟨some 30, .pick (.tmp 22) (.cst (.bool true)) (.tmp 29), none⟩, ⟨some 31, .move (.tmp 30), none⟩, ⟨some 32, .move (.tmp 4), some (31, false)⟩, ⟨some 33, .bin .lss (.tmp 32) (.cst (.int .i64 0)), some (31, false)⟩, ⟨some 34, .pick (.tmp 31) (.cst (.bool true)) (.tmp 33), none⟩, ⟨some 35, .move (.tmp 34), none⟩, ⟨some 36, .move (.tmp 4), some (35, false)⟩, ⟨some 37, .bin .gtr (.tmp 36) (.cst (.int .i64 2147483646)), some (35, false)⟩, ⟨some 38, .pick (.tmp 35) (.cst (.bool true)) (.tmp 37), none⟩]) (.clr [37, 36, 35, 34, 33, 32, 31, 30, 29, 28, 27, 26, 25, 24, 23, 22, 21, 20, 19, 18, 17, 16, 15, 14, 13])) (.cond (.tmp 38) (.seq (.clr [38, 4, 3, 2, 1, 0]) (.seq (.region [⟨some 10, .move (.cst (.int .i64 2)), none⟩]) .ret)) (.seq (.clr [38]) .skip))) (.seq (.seq (.seq (.region [⟨some 39, .move (.tmp 2), none⟩, ⟨some 40, .move (.tmp 0), none⟩, ⟨some 41, .nilck (.tmp 40), none⟩, ⟨some 42, .faddr 1 (.tmp 41), none⟩, ⟨some 43, .load none (.tmp 42), none⟩, ⟨some 44, .move (.tmp 1), none⟩, ⟨some 45, .iaddrS 1 (.tmp 43) (.tmp 44), none⟩, ⟨some 46, .load none (.tmp 45), none⟩, ⟨some 47, .bin .lss (.tmp 39) (.tmp 46), none⟩]) (.clr [46, 45, 44, 43, 42, 41, 40, 39, 2, 1])) (.cond (.tmp 47) (.seq (.clr [47, 4, 3, 0]) (.seq (.region [⟨some 10, .move (.cst (.int .i64 8)), none⟩]) .ret)) (.seq (.clr [47]) .skip))) (.seq (.seq (.seq (.region [⟨some 48, .move (.tmp 0), none⟩, ⟨some 49, .nilck (.tmp 48), none⟩, ⟨some 50, .faddr 1 (.tmp 49), none⟩, ⟨some 51, .load none (.tmp 50), none⟩, ⟨some 52, .move (.tmp 3), none⟩, ⟨some 53, .iaddrS 1 (.tmp 51) (.tmp 52), none⟩, ⟨some 54, .load none (.tmp 53), none⟩, ⟨some 55, .move (.tmp 4), none⟩, ⟨some 56, .bin .leq (.tmp 54) (.tmp 55), none⟩, ⟨some 57, .move (.tmp 56), none⟩, ⟨some 58, .move (.tmp 0), some (57, true)⟩, ⟨some 59, .call 61 [.tmp 58], some (57, true)⟩, ⟨some 60, .pick (.tmp 57) (.tmp 59) (.cst (.bool false)), none⟩]) (.clr [59, 58, 57, 56, 55, 54, 53, 52, 51, 50, 49, 48])) (.cond (.tmp 60) (.seq (.clr [60]) (.seq (.region [⟨some 61, .move (.tmp 0), none⟩, ⟨some 62, .nilck (.tmp 61), none⟩, ⟨some 63, .faddr 1 (.tmp 62), none⟩, ⟨some 64, .load none (.tmp 63), none⟩, ⟨some 65, .move (.tmp 3), none⟩, ⟨some 66, .move (.tmp 4), none⟩, ⟨some 67, .bin .add (.tmp 66) (.cst (.int .i64 1)), none⟩, ⟨some 68, .iaddrS 1 (.tmp 64) (.tmp 65), none⟩, ⟨none, .store 1 (.tmp 68) (.tmp 67), none⟩]) (.clr [68, 67, 66, 65, 64, 63, 62, 61, 4, 3, 0]))) (.seq (.clr [60, 4, 3, 0]) .skip))) (.seq (.region [⟨some 10, .move (.cst (.int .i64 0)), none⟩]) .ret))))), res := [.tmp 10] }
def am46 : AFunc := { nargs := 2, nt := 21, sites := 0, mode := .keep, body := .seq (.seq (.region [⟨some 4, .move (.cst (.int .i64 0)), none⟩]) (.clr [4])) (.seq (.seq (.seq (.region [⟨some 5, .move (.tmp 0), none⟩, ⟨some 6, .eqnil false (NK.p) (.tmp 5), none⟩]) (.clr [5])) (.cond (.tmp 6) (.seq (.clr [6, 1, 0]) (.seq (.region [⟨some 4, .move (.cst (.int .i64 1)), none⟩]) .ret)) (.seq (.clr [6]) .skip))) (.seq (.seq (.seq (.region [⟨some 7, .move (.tmp 1), none⟩, ⟨some 8, .bin .lss (.tmp 7) (.cst (.int .i64 0)), none⟩]) (.clr [7])) (.cond (.tmp 8) (.seq (.clr [8, 1, 0]) (.seq (.region [⟨some 4, .move (.cst (.int .i64 2)), none⟩]) .ret)) (.seq (.clr [8]) .skip))) (.seq (.seq (.seq (.region [⟨some 9, .move (.tmp 0), none⟩, ⟨some 10, .nilck (.tmp 9), none⟩, ⟨some 11, .faddr 2 (.tmp 10), none⟩, ⟨some 12, .load none (.tmp 11), none⟩, ⟨some 13, .bin .geq (.tmp 12) (.cst (.int .i64 0)), none⟩]) (.clr [12, 11, 10, 9])) (.cond (.tmp 13) (.seq (.clr [13, 1, 0]) (.seq (.region [⟨some 4, .move (.cst (.int .i64 9)), none⟩]) .ret)) (.seq (.clr [13]) .skip))) (.seq (.seq (.region [⟨some 14, .move (.tmp 0), none⟩, ⟨some 15, .move (.tmp 0), none⟩, ⟨some 16, .move (.tmp 1), none⟩, ⟨some 17, .nilck (.tmp 14), none⟩, ⟨some 18, .faddr 2 (.tmp 17), none⟩, ⟨none, .store 1 (.tmp 18) (.tmp 16), none⟩, ⟨some 19, .nilck (.tmp 15), none⟩, ⟨some 20, .faddr 3 (.tmp 19), none⟩, ⟨none, .store 1 (.tmp 20) (.cst (.bool false)), none⟩]) (.clr [20, 19, 18, 17, 16, 15, 14, 1, 0])) (.seq (.region [⟨some 4, .move (.cst (.int .i64 0)), none⟩]) .ret))))), res := [.tmp 4] }
def am47 : AFunc := { nargs := 1, nt := 18, sites := 0, mode := .keep, body := .seq (.seq (.region [⟨some 2, .move (.cst (.bool false)), none⟩]) (.clr [2])) (.seq (.seq (.seq (.region [⟨some 4, .move (.tmp 0), none⟩, ⟨some 5, .eqnil false (NK.p) (.tmp 4), none⟩]) (.clr [4])) (.cond (.tmp 5) (.seq (.clr [5, 0]) (.seq (.region [⟨some 2, .move (.cst (.bool true)), none⟩]) .ret)) (.seq (.clr [5]) .skip))) (.seq (.seq (.region [⟨some 6, .move (.tmp 0), none⟩, ⟨some 7, .nilck (.tmp 6), none⟩, ⟨some 8, .faddr 3 (.tmp 7), none⟩, ⟨some 9, .load none (.tmp 8), none⟩, ⟨some 10, .un .not (.tmp 9), none⟩, ⟨some 3, .move (.tmp 10), none⟩]) (.clr [10, 9, 8, 7, 6])) (.seq (.seq (.region [⟨some 11, .move (.tmp 0), none⟩, ⟨some 12, .move (.tmp 0), none⟩, ⟨some 13, .nilck (.tmp 11), none⟩, ⟨some 14, .faddr 2 (.tmp 13), none⟩, ⟨none, .store 1 (.tmp 14) (.cst (.int .i64 (-1))), none⟩, ⟨some 15, .nilck (.tmp 12), none⟩, ⟨some 16, .faddr 3 (.tmp 15), none⟩, ⟨none, .store 1 (.tmp 16) (.cst (.bool false)), none⟩]) (.clr [16, 15, 14, 13, 12, 11, 0])) (.seq (.seq (.region [⟨some 17, .move (.tmp 3), none⟩, ⟨some 2, .move (.tmp 17), none⟩]) (.clr [17, 3])) .ret)))), res := [.tmp 2] }
def am48 : AFunc := { nargs := 1, nt := 12, sites := 0, mode := .look, body := .seq (.seq (.region [⟨some 2, .move (.cst (.bool false)), none⟩]) (.clr [2])) (.seq (.seq (.region [⟨some 3, .move (.tmp 0), none⟩, ⟨some 4, .eqnil true (NK.p) (.tmp 3), none⟩, ⟨some 5, .move (.tmp 4), none⟩, ⟨some 6, .move (.tmp 0), some (5, true)⟩, ⟨some 7, .nilck (.tmp 6), some (5, true)⟩, ⟨some 8, .faddr 9 (.tmp 7), some (5, true)⟩, ⟨some 9, .load none (.tmp 8), some (5, true)⟩, ⟨some 10, .bin .gtr (.tmp 9) (.cst (.int .i64 0)), some (5, true)⟩, ⟨some 11, .pick (.tmp 5) (.tmp 10) (.cst (.bool false)), none⟩, ⟨some 2, .move (.tmp 11), none⟩]) (.clr [11, 10, 9, 8, 7, 6, 5, 4, 3, 0])) .ret), res := [.tmp 2] }
def am49 : AFunc := { nargs := 2, nt := 26, sites := 0, mode := .look, body := .seq (.seq (.region [⟨some 4, .move (.cst (.bool false)), none⟩]) (.clr [4])) (.seq (.seq (.seq (.region [⟨some 6, .move (.tmp 0), none⟩, ⟨some 7, .lenS (.tmp 6), none⟩, ⟨some 8, .move (.tmp 1), none⟩, ⟨some 9, .lenS (.tmp 8), none⟩, ⟨some 10, .bin .neq (.tmp 7) (.tmp 9), none⟩]) (.clr [9, 8, 7, 6])) (.cond (.tmp 10) (.seq (.clr [10, 1, 0]) (.seq (.region [⟨some 4, .move (.cst (.bool false)), none⟩]) .ret)) (.seq (.clr [10]) .skip))) (.seq (.seq (.seq (.region [⟨some 11, .move (.tmp 0), none⟩, ⟨some 12, .lenS (.tmp 11), none⟩, ⟨some 13, .move (.cst (.int .i64 0)), none⟩]) (.clr [11])) (.block 0 (.loop [] [] (.seq (.region [⟨some 14, .bin .lss (.tmp 13) (.tmp 12), none⟩]) (.seq (.cond (.tmp 14) (.seq (.clr [14]) .skip) (.seq (.clr [14, 13, 12, 1, 0]) (.exit 0))) (.seq (.block 1 (.seq (.seq (.region [⟨some 15, .move (.tmp 13), none⟩, ⟨some 5, .move (.tmp 15), none⟩]) (.clr [15])) (.seq (.seq (.region [⟨some 16, .move (.tmp 0), none⟩, ⟨some 17, .move (.tmp 5), none⟩, ⟨some 18, .iaddrS 64 (.tmp 16) (.tmp 17), none⟩, ⟨some 19, .load (some 64) (.tmp 18), none⟩, ⟨some 20, .move (.tmp 1), none⟩, ⟨some 21, .move (.tmp 5), none⟩, ⟨some 22, .iaddrS 64 (.tmp 20) (.tmp 21), none⟩, ⟨some 23, .load (some 64) (.tmp 22), none⟩, ⟨some 24, .eqc true true [.i .u8, .i .u8, .i .u8, .i .u8, .i .u8, .i .u8, .i .u8, .i .u8, .i .u8, .i .u8, .i .u8, .i .u8, .i .u8, .i .u8, .i .u8, .i .u8, .i .u8, .i .u8, .i .u8, .i .u8, .i .u8, .i .u8, .i .u8, .i .u8, .i .u8, .i .u8, .i .u8, .i .u8, .i .u8, .i .u8, .i .u8, .i .u8, .i .u8, .i .u8, .i .u8, .i .u8, .i .u8, .i .u8, .i .u8, .i .u8, .i .u8, .i .u8, .i .u8, .i .u8, .i .u8, .i .u8, .i .u8, .i .u8, .i .u8, .i .u8, .i .u8, .i .u8, .i .u8, .i .u8, .i .u8, .i .u8, .i .u8, .i .u8, .i .u8, .i .u8, .i .u8, .i .u8, .i .u8, .i .u8] (.tmp 19) (.tmp 23), none⟩]) (.clr [23, 22, 21, 20, 19, 18, 17, 16, 5])) (.cond (.tmp 24) (.seq (.clr [24, 13, 12, 1, 0]) (.seq (.region [⟨some 4, .move (.cst (.bool false)), none⟩]) .ret)) (.seq (.clr [24]) .skip))))) (.seq (.region [⟨some 25, .bin .add (.tmp 13) (.cst (.int .i64 1)), none⟩, ⟨some 13, .move (.tmp 25), none⟩]) (.clr [25])))))))) (.seq (.region [⟨some 4, .move (.cst (.bool true)), none⟩]) .ret))), res := [.tmp 4] }
def am50 : AFunc := { nargs := 2, nt := 15, sites := 0, mode := .look, body := .seq (.seq (.region [⟨some 4, .move (.cst (.bool false)), none⟩]) (.clr [4])) (.seq (.seq (.region [⟨some 5, .move (.tmp 1), none⟩, ⟨some 6, .bin .geq (.tmp 5) (.cst (.int .i64 0)), none⟩, ⟨some 7, .move (.tmp 6), none⟩, ⟨some 8, .move (.tmp 1), some (7, true)⟩, ⟨some 9, .move (.tmp 0), some (7, true)⟩, ⟨some 10, .nilck (.tmp 9), some (7, true)⟩, ⟨some 11, .faddr 9 (.tmp 10), some (7, true)⟩, ⟨some 12, .load none (.tmp 11), some (7, true)⟩, ⟨some 13, .bin .lss (.tmp 8) (.tmp 12), some (7, true)⟩, ⟨some 14, .pick (.tmp 7) (.tmp 13) (.cst (.bool false)), none⟩, ⟨some 4, .move (.tmp 14), none⟩]) (.clr [14, 13, 12, 11, 10, 9, 8, 7, 6, 5, 1, 0])) .ret), res := [.tmp 4] }
def am51 : AFunc := { nargs := 1, nt := 8, sites := 1, mode := .auto, body := .seq (.seq (.region [⟨some 2, .move (.cst .nils), none⟩]) (.clr [2])) (.seq (.seq (.seq (.region [⟨some 3, .move (.tmp 0), none⟩, ⟨some 4, .eqnil false (NK.s) (.tmp 3), none⟩]) (.clr [3])) (.cond (.tmp 4) (.seq (.clr [4, 0]) (.seq (.region [⟨some 2, .move (.cst .nils), none⟩]) .ret)) (.seq (.clr [4]) .skip))) (.seq (.seq (.region [⟨some 5, .bslice [] 0 64 [], none⟩, ⟨some 6, .move (.tmp 0), none⟩, ⟨some 7, .append 0 64 64 (.tmp 5) (.tmp 6), none⟩, ⟨some 2, .move (.tmp 7), none⟩]) (.clr [7, 6, 5, 0])) .ret)), res := [.tmp 2] }
def am52 : AFunc := { nargs := 4, nt := 45, sites := 0, mode := .look, body := .seq (.seq (.region [⟨some 8, .move (.cst (.int .i64 0)), none⟩]) (.clr [8])) (.seq (.block 0 (.seq (.seq (.region [⟨some 10, .move (.tmp 0), none⟩, ⟨some 11, .call 48 [.tmp 10], none⟩, ⟨some 12, .un .not (.tmp 11), none⟩, ⟨some 9, .move (.tmp 12), none⟩]) (.clr [12, 11, 10])) (.cond (.tmp 9) (.seq (.clr [9, 3, 2, 1, 0]) (.seq (.region [⟨some 8, .move (.cst (.int .i64 1)), none⟩]) .ret)) (.seq (.clr [9]) (.seq (.seq (.region [⟨some 14, .move (.tmp 0), none⟩, ⟨some 15, .move (.tmp 1), none⟩, ⟨some 16, .call 50 [.tmp 14, .tmp 15], none⟩, ⟨some 17, .un .not (.tmp 16), none⟩, ⟨some 18, .move (.tmp 17), none⟩, ⟨some 19, .move (.tmp 2), some (18, false)⟩, ⟨some 20, .bin .lss (.tmp 19) (.cst (.int .i64 0)), some (18, false)⟩, ⟨some 21, .pick (.tmp 18) (.cst (.bool true)) (.tmp 20), none⟩, ⟨some 22, .move (.tmp 21), none⟩, ⟨some 23, .move (.tmp 2), some (22, false)⟩, ⟨some 24, .move (.tmp 0), some (22, false)⟩, ⟨some 25, .move (.tmp 1), some (22, false)⟩, ⟨some 26, .nilck (.tmp 24), some (22, false)⟩, ⟨some 27, .faddr 1 (.tmp 26), some (22, false)⟩, ⟨some 28, .iaddrA 8 1 (.tmp 27) (.tmp 25), some (22, false)⟩, ⟨some 29, .load none (.tmp 28), some (22, false)⟩, ⟨some 30, .bin .gtr (.tmp 23) (.tmp 29), some (22, false)⟩, ⟨some 31, .pick (.tmp 22) (.cst (.bool true)) (.tmp 30), none⟩, ⟨some 32, .move (.tmp 31), none⟩, ⟨some 33, .move (.tmp 3), some (32, false)⟩, ⟨some 34, .un .not (.tmp 33), some (32, false)⟩, ⟨some 35, .pick (.tmp 32) (.cst (.bool true)) (.tmp 34), none⟩, ⟨some 13, .move (.tmp 35), none⟩]) (.clr [35, 34, 33, 32, 31, 30, 29, 28, 27, 26, 25, 24, 23, 22, 21, 20, 19, 18, 17, 16, 15, 14, 3])) (.cond (.tmp 13) (.seq (.clr [13, 2, 1, 0]) (.seq (.region [⟨some 8, .move (.cst (.int .i64 2)), none⟩]) .ret)) (.seq (.clr [13]) (.seq (.seq (.region [⟨some 37, .move (.tmp 2), none⟩, ⟨some 38, .move (.tmp 0), none⟩, ⟨some 39, .move (.tmp 1), none⟩, ⟨some 40, .nilck (.tmp 38), none⟩, ⟨some 41, .faddr 1 (.tmp 40), none⟩, ⟨some 42, .iaddrA 8 1 (.tmp 41) (.tmp 39), none⟩, ⟨some 43, .load none (.tmp 42), none⟩, ⟨some 44, .bin .lss (.tmp 37) (.tmp 43), none⟩, ⟨some 36, .move (.tmp 44), none⟩]) (.clr [44, 43, 42, 41, 40, 39, 38, 37, 2, 1, 0])) (.cond (.tmp 36) (.seq (.clr [36]) (.seq (.region [⟨some 8, .move (.cst (.int .i64 8)), none⟩]) .ret)) (.seq (.clr [36]) .skip)))))))))) (.seq (.region [⟨some 8, .move (.cst (.int .i64 0)), none⟩]) .ret)), res := [.tmp 8] }
def am53 : AFunc := { nargs := 2, nt := 39, sites := 0, mode := .keep, body := .seq (.seq (.region [⟨some 4, .move (.cst (.bool false)), none⟩]) (.clr [4])) (.seq (.seq (.seq (.region [⟨some 5, .move (.tmp 0), none⟩, ⟨some 6, .nilck (.tmp 5), none⟩, ⟨some 7, .faddr 10 (.tmp 6), none⟩, ⟨some 8, .load none (.tmp 7), none⟩, ⟨some 9, .move (.tmp 8), none⟩, ⟨some 10, .move (.tmp 0), some (9, true)⟩, ⟨some 11, .nilck (.tmp 10), some (9, true)⟩, ⟨some 12, .faddr 11 (.tmp 11), some (9, true)⟩, ⟨some 13, .load none (.tmp 12), some (9, true)⟩, ⟨some 14, .bin .eql (.tmp 13) (.cst (.int .i64 0)), some (9, true)⟩, ⟨some 15, .pick (.tmp 9) (.tmp 14) (.cst (.bool false)), none⟩]) (.clr [14, 13, 12, 11, 10, 9, 8, 7, 6, 5])) (.cond (.tmp 15) (.seq (.clr [15, 1]) (.seq (.seq (.region [⟨some 16, .move (.tmp 0), none⟩, ⟨some 17, .nilck (.tmp 16), none⟩, ⟨some 18, .faddr 12 (.tmp 17), none⟩, ⟨none, .store 1 (.tmp 18) (.cst (.bool true)), none⟩]) (.clr [18, 17, 16, 0])) (.seq (.region [⟨some 4, .move (.cst (.bool false)), none⟩]) .ret))) (.seq (.clr [15]) .skip))) (.seq (.seq (.seq (.region [⟨some 19, .move (.tmp 0), none⟩, ⟨some 20, .nilck (.tmp 19), none⟩, ⟨some 21, .faddr 10 (.tmp 20), none⟩, ⟨some 22, .load none (.tmp 21), none⟩]) (.clr [21, 20, 19])) (.cond (.tmp 22) (.seq (.clr [22]) (.seq (.region [⟨some 23, .move (.tmp 0), none⟩, ⟨some 24, .nilck (.tmp 23), none⟩, ⟨some 25, .faddr 11 (.tmp 24), none⟩, ⟨some 26, .load none (.tmp 25), none⟩, ⟨some 27, .bin .sub (.tmp 26) (.cst (.int .i64 1)), none⟩, ⟨some 28, .nilck (.tmp 23), none⟩, ⟨some 29, .faddr 11 (.tmp 28), none⟩, ⟨none, .store 1 (.tmp 29) (.tmp 27), none⟩]) (.clr [29, 28, 27, 26, 25, 24, 23]))) (.seq (.clr [22]) .skip))) (.seq (.seq (.region [⟨some 30, .move (.tmp 0), none⟩, ⟨some 31, .nilck (.tmp 30), none⟩, ⟨some 32, .faddr 13 (.tmp 31), none⟩, ⟨some 33, .load none (.tmp 32), none⟩, ⟨some 34, .bin .add (.tmp 33) (.cst (.int .i64 1)), none⟩, ⟨some 35, .nilck (.tmp 30), none⟩, ⟨some 36, .faddr 13 (.tmp 35), none⟩, ⟨none, .store 1 (.tmp 36) (.tmp 34), none⟩]) (.clr [36, 35, 34, 33, 32, 31, 30, 0])) (.seq (.seq (.region [⟨some 37, .move (.tmp 1), none⟩, ⟨some 38, .callv (.tmp 37) [], none⟩]) (.clr [38, 37, 1])) (.seq (.region [⟨some 4, .move (.cst (.bool true)), none⟩]) .ret))))), res := [.tmp 4] }
def am54 : AFunc := { nargs := 4, nt := 13, sites := 0, mode := .keep, body := .seq (.region [⟨some 4, .load none (.tmp 1), none⟩, ⟨some 5, .nilck (.tmp 4), none⟩, ⟨some 6, .faddr 0 (.tmp 5), none⟩, ⟨some 7, .load none (.tmp 6), none⟩, ⟨some 8, .load none (.tmp 2), none⟩, ⟨some 9, .load none (.tmp 3), none⟩, ⟨some 10, .bin .add (.tmp 8) (.tmp 9), none⟩, ⟨some 11, .load (some 64) (.tmp 0), none⟩, ⟨some 12, .iaddrS 64 (.tmp 7) (.tmp 10), none⟩, ⟨none, .store 64 (.tmp 12) (.tmp 11), none⟩]) (.clr [12, 11, 10, 9, 8, 7, 6, 5, 4, 3, 2, 1, 0]), res := [] }
def am55 : AFunc := { nargs := 3, nt := 10, sites := 0, mode := .keep, body := .seq (.region [⟨some 3, .load none (.tmp 1), none⟩, ⟨some 4, .load none (.tmp 2), none⟩, ⟨some 5, .load none (.tmp 0), none⟩, ⟨some 6, .bin .add (.tmp 5) (.cst (.int .i64 1)), none⟩, ⟨some 7, .nilck (.tmp 3), none⟩, ⟨some 8, .faddr 1 (.tmp 7), none⟩, ⟨some 9, .iaddrA 8 1 (.tmp 8) (.tmp 4), none⟩, ⟨none, .store 1 (.tmp 9) (.tmp 6), none⟩]) (.clr [9, 8, 7, 6, 5, 4, 3, 2, 1, 0]), res := [] }
def am56 : AFunc := { nargs := 2, nt := 12, sites := 0, mode := .keep, body := .seq (.region [⟨some 2, .load none (.tmp 0), none⟩, ⟨some 3, .load none (.tmp 1), none⟩, ⟨some 4, .nilck (.tmp 2), none⟩, ⟨some 5, .faddr 1 (.tmp 4), none⟩, ⟨some 6, .iaddrA 8 1 (.tmp 5) (.tmp 3), none⟩, ⟨some 7, .load none (.tmp 6), none⟩, ⟨some 8, .bin .add (.tmp 7) (.cst (.int .i64 1)), none⟩, ⟨some 9, .nilck (.tmp 2), none⟩, ⟨some 10, .faddr 1 (.tmp 9), none⟩, ⟨some 11, .iaddrA 8 1 (.tmp 10) (.tmp 3), none⟩, ⟨none, .store 1 (.tmp 11) (.tmp 8), none⟩]) (.clr [11, 10, 9, 8, 7, 6, 5, 4, 3, 2, 1, 0]), res := [] }
def am57 : AFunc := { nargs := 3, nt := 10, sites := 0, mode := .keep, body := .seq (.region [⟨some 3, .load none (.tmp 1), none⟩, ⟨some 4, .nilck (.tmp 3), none⟩, ⟨some 5, .faddr 0 (.tmp 4), none⟩, ⟨some 6, .load none (.tmp 5), none⟩, ⟨some 7, .load none (.tmp 2), none⟩, ⟨some 8, .load (some 64) (.tmp 0), none⟩, ⟨some 9, .iaddrS 64 (.tmp 6) (.tmp 7), none⟩, ⟨none, .store 64 (.tmp 9) (.tmp 8), none⟩]) (.clr [9, 8, 7, 6, 5, 4, 3, 2, 1, 0]), res := [] }
def am58 : AFunc := { nargs := 2, nt := 19, sites := 0, mode := .keep, body := .seq (.seq (.region [⟨some 4, .move (.cst (.int .i64 0)), none⟩]) (.clr [4])) (.seq (.seq (.seq (.region [⟨some 6, .move (.tmp 0), none⟩, ⟨some 7, .lenS (.tmp 6), none⟩, ⟨some 8, .move (.cst (.int .i64 0)), none⟩]) (.clr [6])) (.block 0 (.loop [] [] (.seq (.region [⟨some 9, .bin .lss (.tmp 8) (.tmp 7), none⟩]) (.seq (.cond (.tmp 9) (.seq (.clr [9]) .skip) (.seq (.clr [9, 8, 7, 1, 0]) (.exit 0))) (.seq (.block 1 (.seq (.seq (.region [⟨some 10, .move (.tmp 8), none⟩, ⟨some 5, .move (.tmp 10), none⟩]) (.clr [10])) (.seq (.seq (.region [⟨some 11, .move (.tmp 1), none⟩, ⟨some 12, .move (.tmp 0), none⟩, ⟨some 13, .move (.tmp 5), none⟩, ⟨some 14, .iaddrS 1 (.tmp 12) (.tmp 13), none⟩, ⟨some 15, .load none (.tmp 14), none⟩, ⟨some 16, .callv (.tmp 11) [.tmp 15], none⟩]) (.clr [15, 14, 13, 12, 11])) (.cond (.tmp 16) (.seq (.clr [16, 8, 7, 1, 0]) (.seq (.seq (.region [⟨some 17, .move (.tmp 5), none⟩, ⟨some 4, .move (.tmp 17), none⟩]) (.clr [17, 5])) .ret)) (.seq (.clr [16, 5]) .skip))))) (.seq (.region [⟨some 18, .bin .add (.tmp 8) (.cst (.int .i64 1)), none⟩, ⟨some 8, .move (.tmp 18), none⟩]) (.clr [18])))))))) (.seq (.region [⟨some 4, .move (.cst (.int .i64 (-1))), none⟩]) .ret)), res := [.tmp 4] }
def am59 : AFunc := { nargs := 2, nt := 21, sites := 0, mode := .keep, body := .seq (.seq (.region [⟨some 4, .load none (.tmp 1), none⟩, ⟨some 5, .call 32 [.tmp 4], none⟩, ⟨some 6, .move (.cst (.int .i64 0)), none⟩]) (.clr [4])) (.block 0 (.loop [] [] (.seq (.region [⟨some 7, .bin .lss (.tmp 6) (.tmp 5), none⟩]) (.seq (.cond (.tmp 7) (.seq (.clr [7]) .skip) (.seq (.clr [7, 6, 5, 1, 0]) (.exit 0))) (.seq (.block 1 (.seq (.seq (.region [⟨some 8, .move (.tmp 6), none⟩, ⟨some 3, .move (.tmp 8), none⟩]) (.clr [8])) (.seq (.seq (.region [⟨some 9, .move (.tmp 0), none⟩, ⟨some 10, .move (.tmp 3), none⟩, ⟨some 11, .load none (.tmp 1), none⟩, ⟨some 12, .nilck (.tmp 11), none⟩, ⟨some 13, .faddr 0 (.tmp 12), none⟩, ⟨some 14, .load none (.tmp 13), none⟩, ⟨some 15, .move (.tmp 3), none⟩, ⟨some 16, .iaddrS 64 (.tmp 14) (.tmp 15), none⟩, ⟨some 17, .load (some 64) (.tmp 16), none⟩, ⟨some 18, .callv (.tmp 9) [.tmp 10, .tmp 17], none⟩, ⟨some 19, .un .not (.tmp 18), none⟩]) (.clr [18, 17, 16, 15, 14, 13, 12, 11, 10, 9, 3])) (.cond (.tmp 19) (.seq (.clr [19, 6, 5, 1, 0]) .ret) (.seq (.clr [19]) .skip))))) (.seq (.region [⟨some 20, .bin .add (.tmp 6) (.cst (.int .i64 1)), none⟩, ⟨some 6, .move (.tmp 20), none⟩]) (.clr [20]))))))), res := [] }
def am60 : AFunc := { nargs := 3, nt := 33, sites := 0, mode := .look, body := .seq (.seq (.region [⟨some 6, .move (.cst (.int .i64 0)), none⟩]) (.clr [6])) (.seq (.seq (.seq (.region [⟨some 7, .move (.tmp 1), none⟩, ⟨some 8, .bin .lss (.tmp 7) (.cst (.int .i64 0)), none⟩, ⟨some 9, .move (.tmp 8), none⟩, ⟨some 10, .move (.tmp 1), some (9, false)⟩, ⟨some 11, .move (.tmp 0), some (9, false)⟩, ⟨some 12, .nilck (.tmp 11), some (9, false)⟩, ⟨some 13, .faddr 1 (.tmp 12), some (9, false)⟩, ⟨some 14, .load none (.tmp 13), some (9, false)⟩, ⟨some 15, .lenS (.tmp 14), some (9, false)⟩, ⟨some 16, .bin .geq (.tmp 10) (.tmp 15), some (9, false)⟩, ⟨some 17, .pick (.tmp 9) (.cst (.bool true)) (.tmp 16), none⟩, ⟨some 18, .move (.tmp 17), none⟩, ⟨some 19, .move (.tmp 2), some (18, false)⟩, ⟨some 20, .bin .lss (.tmp 19) (.cst (.int .i64 0)), some (18, false)⟩, ⟨some 21, .pick (.tmp 18) (.cst (.bool true)) (.tmp 20), none⟩, ⟨some 22, .move (.tmp 21), none⟩, ⟨some 23, .move (.tmp 2), some (22, false)⟩, ⟨some 24, .move (.tmp 0), some (22, false)⟩, ⟨some 25, .nilck (.tmp 24), some (22, false)⟩, ⟨some 26, .faddr 1 (.tmp 25), some (22, false)⟩, ⟨some 27, .load none (.tmp 26), some (22, false)⟩, ⟨some 28, .move (.tmp 1), some (22, false)⟩, ⟨some 29, .iaddrS 1 (.tmp 27) (.tmp 28), some (22, false)⟩, ⟨some 30, .load none (.tmp 29), some (22, false)⟩, ⟨some 31, .bin .gtr (.tmp 23) (.tmp 30), some (22, false)⟩, ⟨some 32, .pick (.tmp 22) (.cst (.bool true)) (.tmp 31), none⟩]) (.clr [31, 30, 29, 28, 27, 26, 25, 24, 23, 22, 21, 20, 19, 18, 17, 16, 15, 14, 13, 12, 11, 10, 9, 8, 7, 2, 1, 0])) (.cond (.tmp 32) (.seq (.clr [32]) (.seq (.region [⟨some 6, .move (.cst (.int .i64 2)), none⟩]) .ret)) (.seq (.clr [32]) .skip))) (.seq (.region [⟨some 6, .move (.cst (.int .i64 0)), none⟩]) .ret)), res := [.tmp 6] }
def am61 : AFunc := { nargs := 1, nt := 30, sites := 0, mode := .keep, body := .seq (.seq (.region [⟨some 2, .move (.cst (.bool false)), none⟩]) (.clr [2])) (.seq (.seq (.seq (.region [⟨some 3, .move (.tmp 0), none⟩, ⟨some 4, .nilck (.tmp 3), none⟩, ⟨some 5, .faddr 2 (.tmp 4), none⟩, ⟨some 6, .load none (.tmp 5), none⟩, ⟨some 7, .bin .eql (.tmp 6) (.cst (.int .i64 0)), none⟩]) (.clr [6, 5, 4, 3])) (.cond (.tmp 7) (.seq (.clr [7]) (.seq (.seq (.region [⟨some 8, .move (.tmp 0), none⟩, ⟨some 9, .nilck (.tmp 8), none⟩, ⟨some 10, .faddr 3 (.tmp 9), none⟩, ⟨none, .store 1 (.tmp 10) (.cst (.bool true)), none⟩]) (.clr [10, 9, 8, 0])) (.seq (.region [⟨some 2, .move (.cst (.bool false)), none⟩]) .ret))) (.seq (.clr [7]) .skip))) (.seq (.seq (.seq (.region [⟨some 11, .move (.tmp 0), none⟩, ⟨some 12, .nilck (.tmp 11), none⟩, ⟨some 13, .faddr 2 (.tmp 12), none⟩, ⟨some 14, .load none (.tmp 13), none⟩, ⟨some 15, .bin .gtr (.tmp 14) (.cst (.int .i64 0)), none⟩]) (.clr [14, 13, 12, 11])) (.cond (.tmp 15) (.seq (.clr [15]) (.seq (.region [⟨some 16, .move (.tmp 0), none⟩, ⟨some 17, .nilck (.tmp 16), none⟩, ⟨some 18, .faddr 2 (.tmp 17), none⟩, ⟨some 19, .load none (.tmp 18), none⟩, ⟨some 20, .bin .sub (.tmp 19) (.cst (.int .i64 1)), none⟩, ⟨some 21, .nilck (.tmp 16), none⟩, ⟨some 22, .faddr 2 (.tmp 21), none⟩, ⟨none, .store 1 (.tmp 22) (.tmp 20), none⟩]) (.clr [22, 21, 20, 19, 18, 17, 16]))) (.seq (.clr [15]) .skip))) (.seq (.seq (.region [⟨some 23, .move (.tmp 0), none⟩, ⟨some 24, .nilck (.tmp 23), none⟩, ⟨some 25, .faddr 4 (.tmp 24), none⟩, ⟨some 26, .load none (.tmp 25), none⟩, ⟨some 27, .bin .add (.tmp 26) (.cst (.int .i64 1)), none⟩, ⟨some 28, .nilck (.tmp 23), none⟩, ⟨some 29, .faddr 4 (.tmp 28), none⟩, ⟨none, .store 1 (.tmp 29) (.tmp 27), none⟩]) (.clr [29, 28, 27, 26, 25, 24, 23, 0])) (.seq (.region [⟨some 2, .move (.cst (.bool true)), none⟩]) .ret)))), res := [.tmp 2] }
def am : AProg := [none, none, none, none, none, some am5, none, none, some am8, some am9, some am10, some am11, none, some am13, some am14, some am15, some am16, some am17, none, some am19, some am20, some am21, some am22, some am23, some am24, some am25, some am26, some am27, none, some am29, some am30, some am31, some am32, none, none, some am35, some am36, some am37, none, none, none, some am41, some am42, some am43, some am44, some am45, some am46, some am47, some am48, some am49, some am50, some am51, some am52, some am53, some am54, some am55, some am56, some am57, some am58, some am59, some am60, some am61]
theorem at5 : am[5]? = some (some am5) := rfl
theorem pm8 : pureOf am 8 = .pure := rfl
theorem at9 : am[9]? = some (some am9) := rfl
theorem pm9 : pureOf am 9 = .keep := rfl
theorem at10 : am[10]? = some (some am10) := rfl
theorem pm10 : pureOf am 10 = .keep := rfl
theorem at11 : am[11]? = some (some am11) := rfl
theorem pm11 : pureOf am 11 = .pure := rfl
theorem at13 : am[13]? = some (some am13) := rfl
theorem at14 : am[14]? = some (some am14) := rfl
theorem at15 : am[15]? = some (some am15) := rfl
theorem at16 : am[16]? = some (some am16) := rfl
theorem at17 : am[17]? = some (some am17) := rfl
theorem pm17 : pureOf am 17 = .look := rfl
theorem at19 : am[19]? = some (some am19) := rfl
theorem at20 : am[20]? = some (some am20) := rfl
theorem pm20 : pureOf am 20 = .keep := rfl
theorem at21 : am[21]? = some (some am21) := rfl
theorem at22 : am[22]? = some (some am22) := rfl
theorem pm22 : pureOf am 22 = .keep := rfl
theorem pm23 : pureOf am 23 = .pure := rfl
theorem at24 : am[24]? = some (some am24) := rfl
theorem pm24 : pureOf am 24 = .keep := rfl
theorem at25 : am[25]? = some (some am25) := rfl
theorem pm25 : pureOf am 25 = .keep := rfl
theorem at26 : am[26]? = some (some am26) := rfl
theorem at27 : am[27]? = some (some am27) := rfl
theorem at29 : am[29]? = some (some am29) := rfl
theorem at30 : am[30]? = some (some am30) := rfl
theorem pm30 : pureOf am 30 = .keep := rfl
theorem at31 : am[31]? = some (some am31) := rfl
theorem at32 : am[32]? = some (some am32) := rfl
theorem pm32 : pureOf am 32 = .look := rfl
theorem at35 : am[35]? = some (some am35) := rfl
theorem pm35 : pureOf am 35 = .keep := rfl
theorem at36 : am[36]? = some (some am36) := rfl
theorem pm36 : pureOf am 36 = .keep := rfl
theorem at37 : am[37]? = some (some am37) := rfl
theorem at41 : am[41]? = some (some am41) := rfl
theorem at42 : am[42]? = some (some am42) := rfl
theorem pm42 : pureOf am 42 = .keep := rfl
theorem at43 : am[43]? = some (some am43) := rfl
theorem at44 : am[44]? = some (some am44) := rfl
theorem at45 : am[45]? = some (some am45) := rfl
theorem pm45 : pureOf am 45 = .keep := rfl
theorem at46 : am[46]? = some (some am46) := rfl
theorem pm46 : pureOf am 46 = .keep := rfl
theorem at47 : am[47]? = some (some am47) := rfl
theorem at48 : am[48]? = some (some am48) := rfl
theorem pm48 : pureOf am 48 = .look := rfl
theorem at49 : am[49]? = some (some am49) := rfl
theorem pm49 : pureOf am 49 = .look := rfl
theorem at50 : am[50]? = some (some am50) := rfl
theorem pm50 : pureOf am 50 = .look := rfl
theorem at51 : am[51]? = some (some am51) := rfl
theorem at52 : am[52]? = some (some am52) := rfl
theorem at53 : am[53]? = some (some am53) := rfl
theorem at54 : am[54]? = some (some am54) := rfl
theorem at55 : am[55]? = some (some am55) := rfl
theorem at56 : am[56]? = some (some am56) := rfl
theorem at57 : am[57]? = some (some am57) := rfl
theorem at58 : am[58]? = some (some am58) := rfl
theorem at59 : am[59]? = some (some am59) := rfl
theorem at60 : am[60]? = some (some am60) := rfl
theorem at61 : am[61]? = some (some am61) := rfl
theorem pm61 : pureOf am 61 = .keep := rfl
end Go.Am.T


set_option linter.unusedVariables false
set_option linter.unusedSimpArgs false
namespace Go.Am
theorem closedIn_of {R : List Nat} {n : Nat} {h : Heap} (H : ∀ (o : Nat) (x : Ob), h[o]? = some x → inside R n o = true → ∀ i ∈ x.bd.objs, inside R n i = true) : closedIn R n h = true := by
  unfold closedIn
  rw [List.all_eq_true]
  rintro ⟨x, o⟩ hx
  rw [List.mem_zipIdx_iff_getElem?] at hx
  simp only [Bool.or_eq_true, Bool.not_eq_true']
  cases hi : inside R n o with
  | false => exact .inl rfl
  | true => exact .inr (List.all_eq_true.2 fun i hi' => H o x hx hi i hi')
theorem reachC_own {h : Heap} {l : List Nat} (hcl : ∀ o ∈ l, ∀ y, h[o]? = some y → ∀ i ∈ y.bd.objs, i ∈ l) : reachC h l = l := reachC_closed fun o ho i hi => by
  unfold namedBy at hi
  split at hi
  · rename_i y hy'; exact hcl o ho y hy' i hi
  · cases hi
theorem keepOnly_in {R : List Nat} {h : Heap} {o : Nat} (ho : o ∈ R) : (keepOnly R h)[o]? = h[o]? := by
  rw [keepOnly_get]
  have : R.contains o = true := by simpa using ho
  simp only [this, ↓reduceIte]
  cases h[o]? <;> rfl
theorem ints_at (k : IntKind) {l : List Int} {i : Nat} (h : i < l.length) : ((l.map (V.int k)).drop i).take 1 = [.int k (l.getD i 0)] := by
  rw [← List.map_drop, List.drop_eq_getElem_cons h, List.map_cons, List.take_succ_cons, List.take_zero]
  simp [List.getD_eq_getElem?_getD, h]
end Go.Am


set_option linter.unusedVariables false
set_option linter.unusedSimpArgs false
namespace Go.Am
theorem call_auto_eq {p : AProg} {N n : Nat} {f : FuncId} {fn : AFunc} {args : List V} {h h' : Heap} {v : V} (hf : p[f]? = some (some fn)) (hm : fn.mode = .auto) (ha : args.length = fn.nargs) (hl : fn.nargs ≤ fn.nt)
    (hfree : V.freeL args = false)
    (H : wp ⟨pureOf p, callA p N n, N, h.length⟩ fn.body (fr fn.nt (argsF 0 args)) (h ++ deads fn.sites) (retQ fn.res fun x k => x = v ∧ k = h')) (hy : f ≠ YLD := by decide) : callA p N (n + 1) f args h = some (v, h') := by
  obtain ⟨x, k, hb, rfl, rfl⟩ := body_of_wp (by omega) H
  unfold callA
  rw [if_neg hy]
  simp only [hf, ha, ↓reduceIte, hm, hfree, hb, Bool.false_eq_true]
theorem frame_new {pureF : FuncId → FMode} {call : Caller} {f : FuncId} {args : List V} {h : Heap} {x : Ob} {v : Nat → V} (hm : pureF f = .keep) (hR : V.objsL args = [])
    (hc : ∀ h, call f args h = some (v h.length, h ++ [x])) (hv : ∀ n, ∀ o ∈ (v n).objs, n ≤ o) (hx : x.bd.objs = []) (hy : f ≠ YLD := by decide) : frameC pureF call f args h = some (v h.length, h ++ [x]) := by
  have hlen : (keepOnly [] h).length = h.length := keepOnly_length _ _
  have c1 : closedIn [] h.length (keepOnly [] h) = true := closedIn_of fun o y hy hi => by
    have : o < h.length := by rw [← hlen]; exact (List.getElem?_eq_some_iff.1 hy).1
    simp [inside] at hi
    omega
  have c2 : closedIn [] h.length (keepOnly [] h ++ [x]) = true := closedIn_of fun o y hy hi => by
    have h1 : h.length ≤ o := by simpa [inside] using hi
    rw [List.getElem?_append_right (by omega)] at hy
    have : o - (keepOnly [] h).length = 0 := by
      have := (List.getElem?_eq_some_iff.1 hy).1
      simp at this
      omega
    rw [this] at hy
    cases hy
    rw [hx]
    intro i hi
    cases hi
  have c3 : (v h.length).objs.all (inside [] h.length) = true := by
    rw [List.all_eq_true]
    intro o ho
    simp [inside, hv _ o ho]
  unfold frameC
  rw [if_neg hy, hm]
  simp only [hR, reachC_nil, c1, hc, hlen, c2, c3, List.length_append, List.length_cons, List.length_nil, Nat.le_add_right, decide_true, Bool.and_self, ↓reduceIte]
  congr 2
  apply List.ext_getElem?
  intro o
  rw [mergeH_get]
  rcases Nat.lt_or_ge o h.length with ho | ho
  · rw [List.getElem?_append_left (by omega), List.getElem?_append_left ho, keepOnly_get, List.getElem?_eq_getElem ho]
    simp [inside, Nat.not_le.2 ho, List.getD_eq_getElem?_getD, ho]
  · rw [List.getElem?_append_right (by omega), List.getElem?_append_right ho, hlen]
    cases hh : [x][o - h.length]? with
    | none => rfl
    | some y => simp [inside, ho]
end Go.Am

