import Derived.Test.YtmaijpjjopechaaK1
import Derived.KernelRfl
set_option linter.unusedVariables false
set_option linter.unusedSimpArgs false
namespace Go.Am
variable {P : Program}
def resA1 (get : Nat → Option Ob) (t : List V) : ARes → Option V
  | .tmp i => some (t.getD i .junk)
  | .cell i ag => (loadA get (nAg ag) (t.getD i .junk)).bind (packA ag)
def resA (get : Nat → Option Ob) (t : List V) : List ARes → Option (List V)
  | [] => some []
  | r :: rs => match resA1 get t r, resA get t rs with | some v, some vs => some (v :: vs) | _, _ => none
def packR : List V → V
  | [v] => v
  | vs => .tup vs
abbrev AProg := List (Option AFunc)
def pureOf (p : AProg) (f : FuncId) : FMode := match p[f]? with | some (some fn) => fn.mode | _ => .keep
def bodyA (p : AProg) (call : Caller) (N fb : Nat) (fn : AFunc) (args : List V) (h : Heap) : Option (V × Heap) :=
  match exec (pureOf p) call N fb fn.body (args ++ List.replicate (fn.nt - args.length) .junk) h with
  | some (.norm, t, h') => match resA (fun o => h'[o]?) t fn.res with | some vs => some (packR vs, h') | none => none
  | some (.ret, t, h') => match resA (fun o => h'[o]?) t fn.res with | some vs => some (packR vs, h') | none => none
  | _ => none
def sealDepth : Nat := 64
def yieldA (p : AProg) (call : Caller) (N : Nat) (args : List V) (h : Heap) : Option (V × Heap) :=
  match args with
  | .yld o ver :: xs =>
    match h[o]? with
    | some ⟨v, .loop _ _ t fb f k⟩ =>
      if v = ver then
        match p[f]? with
        | some (some af) =>
          match (rangesA af.body)[k]? with
          | some (ps, asn, body) =>
            if xs.length = ps.length then
              match exec (pureOf p) call N fb asn (setPs ps xs t) h with
              | some (.norm, t1, h1) =>
                match h1[o]? with
                | some ⟨v1, .loop 0 p1 t2 fb2 f2 k2⟩ =>
                  if v1 = ver then
                    match exec (pureOf p) call N fb body t1 (h1.set o ⟨ver, .loop 1 p1 t2 fb2 f2 k2⟩) with
                    | some (x, _, h2) =>
                      match h2[o]? with
                      | some ⟨v2, .loop _ _ t3 fb3 f3 k3⟩ =>
                        if v2 = ver then
                          match x with
                          | .norm => some (.bool true, h2.set o ⟨ver, .loop 0 none t3 fb3 f3 k3⟩)
                          | .exit id => some (.bool false, h2.set o ⟨ver, .loop 2 (some (some id)) t3 fb3 f3 k3⟩)
                          | .ret => some (.bool false, h2.set o ⟨ver, .loop 2 (some none) t3 fb3 f3 k3⟩)
                        else none
                      | _ => none
                    | none => none
                  else none
                | _ => none
              | _ => none
            else none
          | none => none
        | _ => none
      else none
    | _ => none
  | _ => none
def callA (p : AProg) (N : Nat) : Nat → Caller
  | 0, _, _, _ => none
  | n + 1, f, args, h =>
    if f = YLD then yieldA p (callA p N n) N args h else
    match p[f]? with
    | some (some fn) =>
      if args.length = fn.nargs then
        match fn.mode with
        | .keep => bodyA p (callA p N n) N h.length fn args (h ++ deads fn.sites)
        | .auto =>
          if V.freeL args then
            match bodyA p (callA p N n) N 0 fn args (deads fn.sites) with
            | some (v, h') => match V.shut (fun o => h'[o]?) sealDepth v with | some v' => some (v', h) | none => none
            | none => none
          else bodyA p (callA p N n) N h.length fn args (h ++ deads fn.sites)
        | .pure =>
          if V.freeL args then
            match bodyA p (callA p N n) N 0 fn args (deads fn.sites) with
            | some (v, h') => match V.shut (fun o => h'[o]?) sealDepth v with | some v' => some (v', h) | none => none
            | none => none
          else none
        | .look =>
          match args.mapM (V.shut (fun o => h[o]?) sealDepth) with
          | some args' =>
            match bodyA p (callA p N n) N 0 fn args' (deads fn.sites) with
            | some (v, _) => if v.plain then some (v, h) else none
            | none => none
          | none => none
      else none
    | _ => none
def trRes (P : Program) : ResultVar → Option ARes
  | .tmp t => some (.tmp t)
  | .cell a t => (agOf P t).map (.cell a)
structure TrFunc (P : Program) (p : AProg) (f : Nat) (fn : Func) (af : AFunc) : Prop where
  named : (fn.name == "runtime.NumGoroutine") = false
  body : ∃ c al lt, fn.body = some c ∧ trCode P (pureOf p) al f false 0 lt c = some af.body
  nt : af.nt = fn.ntmps
  res : fn.results.toList.mapM (trRes P) = some af.res
def TrProg (P : Program) (p : AProg) : Prop := ∀ (f : Nat) (af : AFunc), p[f]? = some (some af) → ∃ fn, P.funcs[f]? = some fn ∧ TrFunc P p f fn af
theorem sim_empty {g : G} {h : Heap} {w : World} (s : Sim g h w) (n : Nat) : Sim ⟨fun _ _ => none, g.imm, g.code⟩ (deads n) w := by
  have hd : ∀ (o : Nat) (x : Ob), (deads n)[o]? = some x → x.bd.lives = false := fun o x hx => by
    simp only [deads, List.getElem?_replicate] at hx
    split at hx
    · cases hx; rfl
    · cases hx
  refine ⟨fun o x hx hl => ?_, fun o o' b h1 => ?_, fun o b h1 => ?_, s.immlt, fun o t b h1 => by cases h1⟩
  · rw [hd o x hx] at hl; cases hl
  · obtain ⟨x, base, hx, hl, -⟩ := blk_some h1
    rw [hd o x hx] at hl; cases hl
  · obtain ⟨x, base, hx, hl, -⟩ := blk_some h1
    rw [hd o x hx] at hl; cases hl
theorem blk_deads (g : G) (n o b : Nat) : blk g (deads n) o ≠ some b := by
  intro h
  obtain ⟨x, base, hx, hl, -⟩ := blk_some h
  simp only [deads, List.getElem?_replicate] at hx
  split at hx
  · cases hx; cases hl
  · cases hx
theorem sim_back {g : G} {h : Heap} {w : World} (s : Sim g h w) {n : Nat} {g1 : G} {h1 : Heap} {w1 : World} (s1 : Sim g1 h1 w1) (e : Ext ⟨fun _ _ => none, g.imm, g.code⟩ (deads n) w g1 h1 w1) :
    let g2 : G := ⟨g.loc, fun b => g.imm b ∨ (w.heap.size ≤ b ∧ (sealG g1 h1).imm b), g.code⟩
    Sim g2 h w1 ∧ Ext g h w g2 h w1 ∧ ∀ b, (sealG g1 h1).imm b → g2.imm b := by
  intro g2
  have hsame : ∀ b, b < w.heap.size → w1.heap[b]? = w.heap[b]? := fun b hb => e.frame b hb (fun o => blk_deads _ _ _ _)
  have hL : Later g w g2 w1 := ⟨rfl, fun _ _ _ h => h, fun _ h => .inl h, fun b hb => hsame b (s.immlt b hb), e.shape⟩
  have hlt : ∀ o b, blk g h o = some b → b < w.heap.size := fun o b hb => by
    obtain ⟨x, base, hx, hl, hg⟩ := blk_some hb
    obtain ⟨b', base', hg', hlt, -⟩ := s.obs o x hx hl
    rw [hg] at hg'
    cases hg'
    exact hlt
  have himm : ∀ b, (sealG g1 h1).imm b → g2.imm b := by
    intro b hb
    rcases hb with hb | ⟨o, hb⟩
    · rcases e.imm' b hb with h' | h'
      · exact .inl h'
      · exact .inr ⟨h', .inl hb⟩
    · rcases Nat.lt_or_ge b w.heap.size with h' | h'
      · obtain ⟨o', ho'⟩ := e.own o b hb h'
        exact absurd ho' (blk_deads _ _ _ _)
      · exact .inr ⟨h', .inr ⟨o, hb⟩⟩
  refine ⟨⟨fun o x hx hl => ?_, s.inj, fun o b hb hi => ?_, fun b hb => ?_, s.loclt⟩,
    ⟨rfl, fun _ _ _ h => h, fun _ h => .inl h, fun b hb => ?_, e.size, e.shape, fun b hb _ => hsame b hb, fun o b hb _ => ⟨o, hb⟩, e.os, e.tape, e.output⟩, himm⟩
  · obtain ⟨b, base, h1, h2, h3⟩ := s.obs o x hx hl
    exact ⟨b, base, h1, Nat.lt_of_lt_of_le h2 e.size, h3.later hL (hsame b h2)⟩
  · rcases hi with hi | ⟨hi, -⟩
    · exact s.imm o b hb hi
    · have := hlt o b hb; omega
  · rcases hb with hb | ⟨-, hb⟩
    · exact Nat.lt_of_lt_of_le (s.immlt b hb) e.size
    · rcases hb with hb | ⟨o, hb⟩
      · exact s1.immlt b hb
      · obtain ⟨x, base, hx, hl, hg⟩ := blk_some hb
        obtain ⟨b', base', hg', hlt, -⟩ := s1.obs o x hx hl
        rw [hg] at hg'
        cases hg'
        exact hlt
  · rcases hb with hb | ⟨hb, -⟩
    · exact .inl hb
    · exact .inr hb
theorem load_runs {g : G} {h : Heap} {w : World} (s : Sim g h w) {p v : V} {x : Value} {t : TypeId} {ag : Option Nat} (ht : agOf P t = some ag) (hp : VRel g w p x)
    {cs : List V} (hl : loadA (fun o => h[o]?) (nAg ag) p = some cs) (hv : packA ag cs = some v) : ∃ a y, x = .pointer (some a) ∧ (loadVar t a).run P w = .ok y w ∧ VRel g w v y := by
  obtain ⟨b, off, xs, rfl, hxl, hcl, hcell, hrel⟩ := goes_loads s hp hl
  cases ag with
  | some n =>
    simp only [packA, Option.some.injEq] at hv
    subst hv
    have hxl' : xs.length = n := hxl
    refine ⟨_, _, rfl, ?_, hrel.agg⟩
    simp only [nAg, loadVar, Sem.run_bind, Result.andThen_ok, run_isAgg ht, Option.isSome_some, if_true, run_sizeOf_ag ht, run_loads hxl' hcell, Sem.run_pure]
  | none =>
    simp only [nAg] at hxl hcl
    obtain ⟨c, rfl⟩ : ∃ c, cs = [c] := by
      cases cs with
      | nil => simp at hcl
      | cons c cs => cases cs with
        | nil => exact ⟨c, rfl⟩
        | cons d cs => simp at hcl
    obtain ⟨y, rfl⟩ : ∃ y, xs = [y] := by
      cases xs with
      | nil => simp at hxl
      | cons c cs => cases cs with
        | nil => exact ⟨c, rfl⟩
        | cons d cs => simp at hxl
    simp only [packA, List.head?_cons, Option.some.injEq] at hv
    subst hv
    refine ⟨_, y, rfl, ?_, hrel.2 0 _ _ rfl rfl⟩
    have hc := hcell 0 y rfl
    simp only [Nat.add_zero] at hc
    simp [loadVar, run_isAgg ht, run_load, hc]
theorem run_results {g : G} {h : Heap} {w : World} (s : Sim g h w) {t : List V} {tmps : Array Value} (r : TRel g w t tmps) {fn : Func} {rs : List ARes} (hrs : fn.results.toList.mapM (trRes P) = some rs) {vs : List V} (hv : resA (fun o => h[o]?) t rs = some vs) :
    ∃ x, (results fn tmps).run P w = .ok x w ∧ VRel g w (packR vs) x := by
  have hslot : ∀ i, VRel g w (t.getD i .junk) (tmps.getD i undef) := fun i => by
    rcases Nat.lt_or_ge i t.length with h | h
    · rw [List.getD_eq_getElem?_getD, List.getElem?_eq_getElem h]
      exact r.2 i _ (List.getElem?_eq_getElem h)
    · rw [List.getD_eq_getElem?_getD, List.getElem?_eq_none h]
      exact .junk _
  have key : ∀ (F : ResultVar → Sem Value), (∀ i, F (.tmp i) = pure (tmps.getD i undef)) → (∀ i ty, F (.cell i ty) = do loadVar ty (← asAddr (tmps.getD i undef))) → ∀ (l : List ResultVar) (rs : List ARes) (vs : List V), l.mapM (trRes P) = some rs → resA (fun o => h[o]?) t rs = some vs →
      ∃ xs : List Value, (l.mapM F).run P w = .ok xs w ∧ Cells g w vs xs := by
    intro F F1 F2 l
    induction l with
    | nil =>
      intro rs vs h1 h2
      simp at h1
      subst h1
      simp [resA] at h2
      subst h2
      exact ⟨[], rfl, rfl, by simp⟩
    | cons a l ih =>
      intro rs vs h1 h2
      simp only [List.mapM_cons, Option.bind_eq_bind, Option.bind_eq_some_iff, Option.pure_def, Option.some.injEq] at h1
      obtain ⟨ra, hra, rl, hrl, rfl⟩ := h1
      simp only [resA] at h2
      split at h2
      case h_2 => cases h2
      rename_i v vs' e1 e2
      cases h2
      obtain ⟨xs, q1, q2⟩ := ih rl vs' hrl e2
      have one : ∃ x, (F a).run P w = .ok x w ∧ VRel g w v x := by
        cases a with
        | tmp i =>
          simp only [trRes, Option.some.injEq] at hra
          subst hra
          simp only [resA1, Option.some.injEq] at e1
          subst e1
          exact ⟨_, by rw [F1]; rfl, hslot i⟩
        | cell i ty =>
          simp only [trRes, Option.map_eq_some_iff] at hra
          obtain ⟨ag, hag, rfl⟩ := hra
          simp only [resA1, Option.bind_eq_some_iff] at e1
          obtain ⟨cs, hl, hp⟩ := e1
          obtain ⟨ad, x, hx, hrun, hr⟩ := load_runs (P := P) s hag (hslot i) hl hp
          refine ⟨x, ?_, hr⟩
          rw [F2, hx]
          simp [asAddr, hrun]
      obtain ⟨x, hx, hr⟩ := one
      refine ⟨x :: xs, ?_, ⟨by simp [q2.1], fun i c y hc hy => ?_⟩⟩
      · rw [List.mapM_cons]
        simp only [Sem.run_bind, hx, Result.andThen_ok, q1, Sem.run_pure]
      · cases i with
        | zero => simp at hc hy; subst hc; subst hy; exact hr
        | succ i => simp at hc hy; exact q2.2 i c y hc hy
  have hex : ∃ xs : List Value, (results fn tmps).run P w = .ok (if h : xs.toArray.size = 1 then xs.toArray[0] else .tuple xs.toArray) w ∧ Cells g w vs xs := by
    unfold results
    rw [Array.mapM_eq_mapM_toList]
    obtain ⟨xs, h1, h2⟩ := key (fun | .tmp t => pure (tmps.getD t undef) | .cell a t => do loadVar t (← asAddr (tmps.getD a undef))) (fun i => rfl) (fun i ty => rfl) _ _ _ hrs hv
    refine ⟨xs, ?_, h2⟩
    have e : ∀ (m : Sem (List Value)), (List.toArray <$> m).run P w = (m.run P w).andThen fun a w' => .ok a.toArray w' := fun m => by
      show ((m >>= fun a => pure a.toArray).run P w) = _
      rw [Sem.run_bind]
      congr 1
    rw [Sem.run_bind, e]
    erw [h1]
    rfl
  obtain ⟨xs, hrun, h2⟩ := hex
  refine ⟨_, hrun, ?_⟩
  have tup : ∀ (vs : List V) (xs : List Value), Cells g w vs xs → VRel g w (.tup vs) (.tuple xs.toArray) := by
    intro vs xs h
    have := h.agg
    cases this with
    | agg _ _ hx hc => exact .tup _ _ hx hc
  cases vs with
  | nil =>
    have hx : xs = [] := List.length_eq_zero_iff.1 h2.1
    subst hx
    exact tup [] [] h2
  | cons v vs =>
    cases vs with
    | nil =>
      obtain ⟨y, rfl⟩ : ∃ y, xs = [y] := by
        have := h2.1
        cases xs with
        | nil => simp at this
        | cons y ys => cases ys with
          | nil => exact ⟨y, rfl⟩
          | cons z zs => simp at this
      exact h2.2 0 v y rfl rfl
    | cons v' vs =>
      have hne : ¬ xs.toArray.size = 1 := by have := h2.1; simp at this ⊢; omega
      rw [dif_neg hne]
      exact tup _ _ h2
theorem sim_shutm {g : G} {h : Heap} {w : World} (s : Sim g h w) {r : Nat} (hr : w.heap[r]? = some (.deferred (some []))) (ho : ∀ o, blk g h o ≠ some r) (hi : ¬ g.imm r) :
    Sim g h (w.putObj r (.deferred none)) ∧ Later g w g (w.putObj r (.deferred none)) := by
  have hshape : ∀ k y, w.shape? k = some y → (w.putObj r (.deferred none)).shape? k = some y := by
    intro k y hk
    by_cases e : k = r
    · subst e
      simp [World.shape?, hr] at hk
    · unfold World.shape? at hk ⊢
      rw [World.putObj_heap_other e]
      exact hk
  have hL : Later g w g (w.putObj r (.deferred none)) := ⟨rfl, fun _ _ _ h => h, fun _ h => h, fun k hk => World.putObj_heap_other (fun e => hi (e ▸ hk)), hshape⟩
  refine ⟨⟨fun o x hx hl => ?_, s.inj, s.imm, fun b hb => by rw [World.putObj_size]; exact s.immlt b hb, s.loclt⟩, hL⟩
  obtain ⟨b, base, h1, h2, h3⟩ := s.obs o x hx hl
  refine ⟨b, base, h1, by rw [World.putObj_size]; exact h2, h3.later hL (World.putObj_heap_other ?_)⟩
  rintro rfl
  exact ho o (blk_of hx hl h1)
theorem Ext.shutm {g0 g : G} {h0 h : Heap} {w0 w : World} (e : Ext g0 h0 w0 g h w) {r : Nat} (hr : w.heap[r]? = some (.deferred (some []))) (hm : w0.heap.size ≤ r) : Ext g0 h0 w0 g h (w.putObj r (.deferred none)) := by
  refine ⟨e.code, e.loc, e.imm, e.imm', by rw [World.putObj_size]; exact e.size, fun k y hk => ?_, fun b hb hno => ?_, e.own, e.os, e.tape, e.output⟩
  · have := e.shape k y hk
    by_cases ek : k = r
    · subst ek
      simp [World.shape?, hr] at this
    · unfold World.shape? at this ⊢
      rw [World.putObj_heap_other ek]
      exact this
  · rw [World.putObj_heap_other (by omega)]
    exact e.frame b hb hno
theorem leaves_marks {g0 : G} {h0 : Heap} {w0 : World} {fn : Func} {F : Fence} {n : Nat} {tmps : Array Value} {t : List V} {rs : List ARes} (hrs : fn.results.toList.mapM (trRes P) = some rs) {g : G} {h : Heap} {vs : List V} (hv : resA (fun o => h[o]?) t rs = some vs)
    {R : Ending → World → Prop} (hR : ∀ w x, Sim g h w → Ext g0 h0 w0 g h w → VRel g w (packR vs) x → R (.returned x) w) :
    ∀ (L : List Nat) (w : World), Sim g h w → Ext g0 h0 w0 g h w → TRel g w t tmps → L.Nodup → (∀ r ∈ L, w0.heap.size ≤ r ∧ r < w.heap.size ∧ w.heap[r]? = some (.deferred (some [])) ∧ (∀ o, blk g h o ≠ some r) ∧ ¬ g.imm r) →
      LeavesInM F n P fn tmps R (L.map (fun r => ({ target := .collected r, args := #[] } : Deferred))) .returning w
  | [], w, s, e, r, _, _ => by
    obtain ⟨y, hy, hyr⟩ := run_results s r hrs hv
    exact ⟨y, hy, hR w y s e hyr⟩
  | d :: L, w, s, e, r, hn, hall => by
    obtain ⟨h1, h2, h3, h4, h5⟩ := hall d (by simp)
    obtain ⟨s', hL⟩ := sim_shutm s h3 h4 h5
    rw [List.nodup_cons] at hn
    refine ⟨by simp, .inl ⟨d, _, rfl, run_takeDeferred h3, leaves_marks hrs hv hR L _ s' (e.shutm h3 h1) ⟨r.1, fun i v hi => (r.2 i v hi).later hL⟩ hn.2 fun r' hr' => ?_⟩⟩
    obtain ⟨k1, k2, k3, k4, k5⟩ := hall r' (by simp [hr'])
    refine ⟨k1, by rw [World.putObj_size]; exact k2, ?_, k4, k5⟩
    have hne : r' ≠ d := by rintro rfl; exact hn.1 hr'
    rw [World.putObj_heap_other hne]
    exact k3
theorem sim_body {p : AProg} (hm : P.follows .mixedOrders = true) {call : Caller} (hcall : CallOk P call) (hpure : PureOk (pureOf p) call) {N fb : Nat} {f : FuncId} {fn : Func} {af : AFunc} (hf : P.funcs[f]? = some fn) (ht : TrFunc P p f fn af)
    {args : List V} {h : Heap} {v : V} {h' : Heap} (hb : bodyA p call N fb af args h = some (v, h')) {g : G} {w : World} {xs : Array Value} (hgc : g.code = codesOf P) (s : Sim g h w) (hl : xs.size = args.length) (hx : ∀ i c, args[i]? = some c → VRel g w c (xs.getD i undef)) :
    Calls P f xs w fun e w' => ∃ x g', e = .returned x ∧ Sim g' h' w' ∧ Ext g h w g' h' w' ∧ VRel g' w' v x := by
  obtain ⟨c, al, hint, hc, htc⟩ := ht.body
  have hcd : ∀ i lc, (rangesOf c)[i]? = some lc → codesOf P f (0 + i) = some lc := fun i lc hi => by
    rw [Nat.zero_add]
    simp only [codesOf, hf, hc]
    exact hi
  have r : TRel g w (args ++ List.replicate (af.nt - args.length) .junk) (xs ++ Array.replicate (fn.ntmps - xs.size) undef) := by
    refine ⟨by simp [hl, ht.nt], fun i u hi => ?_⟩
    rcases Nat.lt_or_ge i args.length with hlt | hge
    · rw [List.getElem?_append_left hlt] at hi
      have := hx i u hi
      rw [Array.getD_eq_getD_getElem?] at this ⊢
      rw [Array.getElem?_append_left (by omega)]
      exact this
    · rw [List.getElem?_append_right hge, List.getElem?_replicate] at hi
      split at hi
      · cases hi
        exact .junk _
      · cases hi
  have post : ∀ (x : Ex) (t : List V) (vs : List V), x.to = .normal ∨ x.to = .ret → resA (fun o => h'[o]?) t af.res = some vs → v = packR vs → ∀ g' w' a', Sim g' h' w' → Ext g h w g' h' w' → TRel g' w' t a'.tmps → Mk w.heap.size g' h' w' a'.defers →
      bodyPostM (FR none) 0 P fn (fun e w' => ∃ x g', e = .returned x ∧ Sim g' h' w' ∧ Ext g h w g' h' w' ∧ VRel g' w' v x) x.to a' w' := by
    intro x t vs hx hr hv g' w' a' q1 q2 q3 q4
    obtain ⟨-, L, hL, hn, hall⟩ := q4
    subst hv
    have : LeavesInM (FR none) 0 P fn a'.tmps (fun e w' => ∃ x g', e = .returned x ∧ Sim g' h' w' ∧ Ext g h w g' h' w' ∧ VRel g' w' (packR vs) x) a'.defers .returning w' := by
      rw [hL]
      exact leaves_marks ht.res hr (fun w x s e hv => ⟨x, g', rfl, s, e, hv⟩) L w' q1 q2 q3 hn hall
    rcases hx with hx | hx <;> rw [hx] <;> exact this
  refine (callsIn_wide (n := 0)).1 (callsIn_of_wp_marks (F := FR none) hf hc trivial ?_)
  unfold bodyA at hb
  split at hb
  · rename_i t k he
    split at hb
    · rename_i vs hr
      simp only [Option.some.injEq, Prod.mk.injEq] at hb
      obtain ⟨rfl, rfl⟩ := hb
      exact sim_code (rd := none) (nn := 0) (inR := false) hm hcall hpure (fun _ => rfl) c 0 hint af.body htc hcd _ g h w _ _ _ _ _ _ he hgc s r (Mk.nil (Nat.le_refl _)) (post .norm t vs (.inl rfl) hr rfl)
    · cases hb
  · rename_i t k he
    split at hb
    · rename_i vs hr
      simp only [Option.some.injEq, Prod.mk.injEq] at hb
      obtain ⟨rfl, rfl⟩ := hb
      exact sim_code (rd := none) (nn := 0) (inR := false) hm hcall hpure (fun _ => rfl) c 0 hint af.body htc hcd _ g h w _ _ _ _ _ _ he hgc s r (Mk.nil (Nat.le_refl _)) (post .ret t vs (.inr rfl) hr rfl)
    · cases hb
  · cases hb
theorem callA_pure (p : AProg) (N n : Nat) : PureOk (pureOf p) (callA p N n) := by
  constructor
  · intro f args h v h1 hny hp hc
    cases n with
    | zero => simp [callA] at hc
    | succ n =>
      unfold pureOf at hp
      cases hfn : p[f]? with
      | none => simp [hfn] at hp
      | some o =>
        cases o with
        | none => simp [hfn] at hp
        | some fn =>
          simp only [hfn] at hp
          have e : ∀ h, callA p N (n + 1) f args h = if args.length = fn.nargs then if V.freeL args then
              match bodyA p (callA p N n) N 0 fn args (deads fn.sites) with
              | some (v, h') => match V.shut (fun o => h'[o]?) sealDepth v with | some v' => some (v', h) | none => none
              | none => none
            else none else none := by
            intro h
            simp only [callA, if_neg hny, hfn, hp]
          rw [e] at hc
          split at hc
          case isFalse => cases hc
          rename_i hl
          split at hc
          case isFalse => cases hc
          rename_i hfr
          split at hc
          case h_2 => cases hc
          rename_i v0 h0 hb
          split at hc
          case h_2 => cases hc
          rename_i v' hs
          simp only [Option.some.injEq, Prod.mk.injEq] at hc
          obtain ⟨rfl, rfl⟩ := hc
          refine ⟨rfl, fun h' => ?_⟩
          rw [e, if_pos hl, if_pos hfr]
          simp only [hb, hs]
  · intro f args h v h1 hny hp hc
    cases n with
    | zero => simp [callA] at hc
    | succ n =>
      unfold pureOf at hp
      cases hfn : p[f]? with
      | none => simp [hfn] at hp
      | some o =>
        cases o with
        | none => simp [hfn] at hp
        | some fn =>
          simp only [hfn] at hp
          have e : ∀ h, callA p N (n + 1) f args h = if args.length = fn.nargs then
              match args.mapM (V.shut (fun o => h[o]?) sealDepth) with
              | some args' =>
                match bodyA p (callA p N n) N 0 fn args' (deads fn.sites) with
                | some (v, _) => if v.plain then some (v, h) else none
                | none => none
              | none => none
            else none := by
            intro h
            simp only [callA, if_neg hny, hfn, hp]
          rw [e] at hc
          split at hc
          case isFalse => cases hc
          rename_i hl
          split at hc
          case h_2 => cases hc
          rename_i args' hm
          split at hc
          case h_2 => cases hc
          rename_i v0 h0 hb
          split at hc
          case isFalse => cases hc
          rename_i hpl
          simp only [Option.some.injEq, Prod.mk.injEq] at hc
          obtain ⟨rfl, rfl⟩ := hc
          refine ⟨rfl, fun hflat h' ha => ?_⟩
          have hm' : args.mapM (V.shut (fun o => h'[o]?) sealDepth) = some args' := by
            rw [← hm]
            refine (mapM_congr fun c hc => shut_local (S := reachC h (V.objsL args)) (fun o ho => ha o ho) (fun o ho x hx i hi => ?_) sealDepth c (fun o ho => reachC_sub h _ o (mem_objsL hc o ho))).symm
            have := List.all_eq_true.1 hflat o ho
            simp only [namedBy, hx, List.all_eq_true] at this
            simpa using this i hi
          rw [e, if_pos hl]
          simp only [hm', hb, hpl, if_true]
theorem foldl_rel {g : G} {w : World} : ∀ (ps : List Nat) (xs : List V) (ys : List Value) (t : List V) (tmps : Array Value), ps.length = xs.length → ys.length = xs.length → (∀ (i : Nat) (c : V) (y : Value), xs[i]? = some c → ys[i]? = some y → VRel g w c y) → TRel g w t tmps →
    TRel g w (setPs ps xs t) ((ps.zip ys).foldl (fun tmps (t, a) => tmps.setIfInBounds t a) tmps)
  | [], xs, ys, t, tmps, _, _, _, r => r
  | p :: ps, [], ys, t, tmps, h, _, _, r => by simp at h
  | p :: ps, x :: xs, [], t, tmps, _, h, _, r => by simp at h
  | p :: ps, x :: xs, y :: ys, t, tmps, h1, h2, hr, r => by
    have := foldl_rel ps xs ys (t.set p x) (tmps.setIfInBounds p y) (by simpa using h1) (by simpa using h2) (fun i c z h3 h4 => hr (i + 1) c z (by simpa using h3) (by simpa using h4)) (by
      have := TRel.put (a := { tmps := tmps, defers := [] }) r (hr 0 x y rfl rfl) (some p)
      exact this)
    exact this
theorem yieldA_ok (hm : P.follows .mixedOrders = true) {p : AProg} (hp : TrProg P p) {call : Caller} (hcall : CallOk P call) (hpure : PureOk (pureOf p) call) {N : Nat} {o ver : Nat} {args : List V} {h : Heap} {v : V} {h' : Heap} (hc : yieldA p call N (.yld o ver :: args) h = some (v, h')) :
    ∀ g w (xs : Array Value) b rd n, g.code = codesOf P → Sim g h w → g.loc o ver = some (b, 0) → xs.size = args.length → (∀ i c, args[i]? = some c → VRel g w c (xs.getD i undef)) →
      ∃ fn tmps asn body, (Instr.yield b xs).run P w = .ok (.round b fn tmps asn body) w ∧
        RoundIn (FR rd) n P b fn tmps asn body w fun e w' => ∃ x g', e = .returned x ∧ Sim g' h' w' ∧ Ext g h w g' h' w' ∧ VRel g' w' v x := by
  intro g w xs b rd n hgc s hg hl hx
  simp only [yieldA] at hc
  split at hc
  case h_2 => cases hc
  rename_i v0 st0 pd0 t fb f k hob
  split at hc
  case isFalse => cases hc
  rename_i hv0
  subst hv0
  split at hc
  case h_2 => cases hc
  rename_i af haf
  split at hc
  case h_2 => cases hc
  rename_i ps asnA bodyA' hra
  split at hc
  case isFalse => cases hc
  rename_i hlen
  split at hc
  case h_2 => cases hc
  rename_i t1 h1 hex1
  split at hc
  case h_2 => cases hc
  rename_i v1 p1 t2 fb2 f2 k2 hob1
  split at hc
  case isFalse => cases hc
  rename_i hv1
  subst hv1
  split at hc
  case h_2 => cases hc
  rename_i x t4 h2 hex2
  split at hc
  case h_2 => cases hc
  rename_i v2 st3 pd3 t3 fb3 f3 k3 hob2
  split at hc
  case isFalse => cases hc
  rename_i hv2
  subst hv2
  obtain ⟨b0, rec, q1, q2, q3, q4, q5, q6, q7, q8, q9⟩ := sim_loop s hob
  rw [hg] at q1
  cases q1
  obtain ⟨fnc, hf, ht⟩ := hp f af haf
  obtain ⟨c, al, lt, hcb, htc⟩ := ht.body
  have hcode : (rangesOf c)[k]? = some ⟨rec.params, rec.assign, rec.body⟩ := by
    rw [hgc] at q7
    simpa only [codesOf, hf, hcb] using q7
  obtain ⟨-, -, hr⟩ := trCode_ranges c _ _ _ _ htc
  obtain ⟨ra, lt1, lt2, k1, k2', hra', hps, hasn, hbody⟩ := hr k _ hcode
  rw [hra] at hra'
  cases hra'
  simp only at hps hasn hbody
  have nest : ∀ {c : Code} {kk : Nat} {l : LT} {A : ACode}, trCode P (pureOf p) al f true kk l c = some A → ∀ i lc, (rangesOf c)[i]? = some lc → codesOf P f (kk + i) = some lc := fun hh i lc hi => by
    rw [(trCode_ranges _ _ _ _ _ hh).1 rfl] at hi
    simp at hi
  have hsz : xs.size = rec.params.size := by
    rw [hl, hlen, ← hps]
    simp
  refine ⟨rec.fn, _, rec.assign, rec.body, run_yield q4 hsz, roundIn_of_wpIn trivial ?_⟩
  have r0 : TRel g w (setPs ps args t) ((rec.params.zip xs).foldl (fun tmps (t, a) => tmps.setIfInBounds t a) rec.tmps) := by
    have e1 : (rec.params.zip xs).foldl (fun tmps (t, a) => tmps.setIfInBounds t a) rec.tmps = (ps.zip xs.toList).foldl (fun tmps (t, a) => tmps.setIfInBounds t a) rec.tmps := by
      rw [← Array.foldl_toList, Array.toList_zip, hps]
    rw [e1]
    refine foldl_rel ps args xs.toList t rec.tmps (by omega) (by simpa using hl) (fun i c y h1 h2 => ?_) ⟨q8, q9⟩
    have := hx i c h1
    rw [Array.getD_eq_getD_getElem?] at this
    have h3 : xs[i]? = some y := by simpa using h2
    rw [h3] at this
    exact this
  refine sim_code (rd := some b) (nn := n) (inR := true) (m := 0) hm hcall hpure (fun h => by cases h) rec.assign _ lt1 asnA hasn (nest hasn) _ g h w _ _ _ _ _ _ hex1 hgc s r0 (Mk.nil (Nat.zero_le _)) ?_
  intro g1 w1 a1 s1 x1 r1 d1
  obtain ⟨b1, rec1, u1, u2, u3, u4, u5, u6, u7, u8, u9⟩ := sim_loop s1 hob1
  have hg1 := x1.loc _ _ _ hg
  rw [hg1] at u1
  cases u1
  have hready : rec1.state = .ready := by
    revert u5
    cases rec1.state <;> intro u5 <;> first | rfl | (simp [stateN] at u5)
  refine ⟨_, run_beginRound u4 hready, ?_⟩
  obtain ⟨s2, x2⟩ := sim_turn s1 hob1 hg1 u4 (rec' := { rec1 with state := .busy }) (st' := 1) (pend' := p1) rfl u6 rfl rfl rfl rfl
  generalize w1.putObj b (.loop { rec1 with state := .busy }) = w2 at s2 x2 ⊢
  have e12 := x1.trans x2
  refine sim_code (rd := some b) (nn := n) (inR := true) (m := 0) hm hcall hpure (fun h => by cases h) rec.body _ lt2 bodyA' hbody (nest hbody) _ g1 _ w2 _ _ _ _ _ _ hex2 (e12.code.trans hgc) s2 (r1.ext x2 s1) (d1.ext x2) ?_
  intro g3 w3 a3 s3 x3 r3 _
  obtain ⟨b3, rec3, y1, y2, y3, y4, y5, y6, y7, y8, y9⟩ := sim_loop s3 hob2
  have hg3 := x3.loc _ _ _ hg1
  rw [hg3] at y1
  cases y1
  cases x with
  | norm =>
    simp only [Option.some.injEq, Prod.mk.injEq] at hc
    obtain ⟨rfl, rfl⟩ := hc
    obtain ⟨s4, x4⟩ := sim_turn s3 hob2 hg3 y4 (rec' := { rec3 with state := .ready, pending := none }) (st' := 0) (pend' := none) rfl rfl rfl rfl rfl rfl
    exact ⟨_, _, run_endRound none y4, _, g3, rfl, s4, (e12.trans x3).trans x4, .bool true⟩
  | exit id =>
    simp only [Option.some.injEq, Prod.mk.injEq] at hc
    obtain ⟨rfl, rfl⟩ := hc
    obtain ⟨s4, x4⟩ := sim_turn s3 hob2 hg3 y4 (rec' := { rec3 with state := .done, pending := some (.exit id) }) (st' := 2) (pend' := some (some id)) rfl rfl rfl rfl rfl rfl
    exact ⟨_, _, run_endRound (some (.exit id)) y4, _, g3, rfl, s4, (e12.trans x3).trans x4, .bool false⟩
  | ret =>
    simp only [Option.some.injEq, Prod.mk.injEq] at hc
    obtain ⟨rfl, rfl⟩ := hc
    obtain ⟨s4, x4⟩ := sim_turn s3 hob2 hg3 y4 (rec' := { rec3 with state := .done, pending := some .ret }) (st' := 2) (pend' := some none) rfl rfl rfl rfl rfl rfl
    exact ⟨_, _, run_endRound (some .ret) y4, _, g3, rfl, s4, (e12.trans x3).trans x4, .bool false⟩
theorem callA_ok (hm : P.follows .mixedOrders = true) {p : AProg} (hp : TrProg P p) (N : Nat) : ∀ n, CallOk P (callA p N n)
  | 0 => ⟨fun f args h v h' _ hc => by simp [callA] at hc, fun o ver args h v h' hc => by simp [callA] at hc⟩
  | n + 1 => by
    have IH := callA_ok hm hp N n
    have IP := callA_pure p N n
    refine ⟨fun f args h v h' hny hc => ?_, fun o ver args h v h' hc => ?_⟩
    case refine_2 =>
      simp only [callA, ↓reduceIte] at hc
      exact yieldA_ok hm hp IH IP hc
    simp only [callA, if_neg hny] at hc
    split at hc
    case h_2 => cases hc
    rename_i af haf
    obtain ⟨fn, hf, ht⟩ := hp f af haf
    split at hc
    case isFalse => cases hc
    refine ⟨⟨fn, hf, ?_, ht.named⟩, fun g w xs hgc s hl hx => ?_⟩
    · obtain ⟨c, al, hint, hb, -⟩ := ht.body
      rw [hb]; rfl
    · have keep : bodyA p (callA p N n) N h.length af args (h ++ deads af.sites) = some (v, h') → Calls P f xs w fun e w' => ∃ x g', e = .returned x ∧ Sim g' h' w' ∧ Ext g h w g' h' w' ∧ VRel g' w' v x := by
        intro hc
        obtain ⟨s1, e1⟩ := sim_grow s af.sites
        refine (sim_body hm IH IP hf ht hc (e1.code.trans hgc) s1 hl hx).mono ?_
        rintro e w' ⟨x, g', rfl, q1, q2, q3⟩
        exact ⟨x, g', rfl, q1, e1.trans q2, q3⟩
      have alone : V.freeL args = true → (match bodyA p (callA p N n) N 0 af args (deads af.sites) with
          | some (v, h') => match V.shut (fun o => h'[o]?) sealDepth v with | some v' => some (v', h) | none => none
          | none => none) = some (v, h') → Calls P f xs w fun e w' => ∃ x g', e = .returned x ∧ Sim g' h' w' ∧ Ext g h w g' h' w' ∧ VRel g' w' v x := by
        intro hfree hc
        split at hc
        case h_2 => cases hc
        rename_i v0 h0 hb
        split at hc
        case h_2 => cases hc
        rename_i v' hs
        simp only [Option.some.injEq, Prod.mk.injEq] at hc
        obtain ⟨rfl, rfl⟩ := hc
        have s0 := sim_empty s af.sites
        refine (sim_body hm IH IP hf ht hb (g := ⟨fun _ _ => none, g.imm, g.code⟩) hgc s0 hl (fun i c hi => (hx i c hi).free (fun b hb => hb) (freeL_get hfree i c hi))).mono ?_
        rintro e w' ⟨x, g', rfl, q1, q2, q3⟩
        obtain ⟨b1, b2, b3⟩ := sim_back s q1 q2
        obtain ⟨v1, v2⟩ := sim_seal q1 sealDepth v0 v' x hs q3
        exact ⟨x, _, rfl, b1, b2, v1.free b3 v2⟩
      split at hc
      · exact keep hc
      · split at hc
        · rename_i hfree; exact alone hfree hc
        · exact keep hc
      · split at hc
        case isFalse => cases hc
        rename_i hfree
        exact alone hfree hc
      · split at hc
        case h_2 => cases hc
        rename_i args' hsh
        split at hc
        case h_2 => cases hc
        rename_i v0 h0 hb
        split at hc
        case isFalse => cases hc
        rename_i hpl
        simp only [Option.some.injEq, Prod.mk.injEq] at hc
        obtain ⟨rfl, rfl⟩ := hc
        obtain ⟨m1, m2⟩ := mapM_get hsh
        have ss : Sim ⟨fun _ _ => none, (sealG g h).imm, g.code⟩ (deads af.sites) w := by
          have hd : ∀ (o : Nat) (x : Ob), (deads af.sites)[o]? = some x → x.bd.lives = false := fun o x hx => by
            simp only [deads, List.getElem?_replicate] at hx
            split at hx
            · cases hx; rfl
            · cases hx
          refine ⟨fun o x hx hl => (by rw [hd o x hx] at hl; cases hl), fun o o' b h1 => (blk_deads _ _ _ _ h1).elim, fun o b hb => (blk_deads _ _ _ _ hb).elim, fun b hb => ?_, fun o t b hb => by cases hb⟩
          rcases hb with hb | ⟨o, hb⟩
          · exact s.immlt b hb
          · obtain ⟨x, base, hx, hlv, hg⟩ := blk_some hb
            obtain ⟨b', base', hg', hlt, -⟩ := s.obs o x hx hlv
            rw [hg] at hg'
            cases hg'
            exact hlt
        refine (sim_body hm IH IP hf ht hb (g := ⟨fun _ _ => none, (sealG g h).imm, g.code⟩) hgc ss (by omega) (fun i c hi => ?_)).mono ?_
        · obtain ⟨b, hb', hs⟩ := m2 i c hi
          obtain ⟨r1, r2⟩ := sim_seal s sealDepth b c _ hs (hx i b hb')
          exact r1.free (fun b hb => hb) r2
        · rintro e w' ⟨x, g', rfl, q1, q2, q3⟩
          have hsame : ∀ b, b < w.heap.size → w'.heap[b]? = w.heap[b]? := fun b hb => q2.frame b hb (fun o => blk_deads _ _ _ _)
          have hL : Later g w g w' := ⟨rfl, fun _ _ _ h => h, fun _ h => h, fun b hb => hsame b (s.immlt b hb), q2.shape⟩
          have s' : Sim g h w' := ⟨fun o x hx hl => by
              obtain ⟨b, base, h1, h2, h3⟩ := s.obs o x hx hl
              exact ⟨b, base, h1, Nat.lt_of_lt_of_le h2 q2.size, h3.later hL (hsame b h2)⟩,
            s.inj, s.imm, fun b hb => Nat.lt_of_lt_of_le (s.immlt b hb) q2.size, s.loclt⟩
          exact ⟨x, g, rfl, s', ⟨rfl, fun _ _ _ h => h, fun _ h => h, fun _ h => .inl h, q2.size, q2.shape, fun b hb _ => hsame b hb, fun o b hb _ => ⟨o, hb⟩, q2.os, q2.tape, q2.output⟩, q3.plain hpl⟩
theorem sim_start (P : Program) (w : World) : Sim ⟨fun _ _ => none, fun b => b < w.heap.size, codesOf P⟩ [] w :=
  ⟨fun o x hx => by simp at hx, fun o o' b hb => by simp [blk] at hb, fun o b hb => by simp [blk] at hb, fun b hb => hb, fun o t b hb => by cases hb⟩
theorem below_of {g g' : G} {w w' : World} {h' : Heap} (e : Ext g [] w g' h' w') : RowKit.Below w.heap.size w w' :=
  ⟨e.os, e.tape, e.output, e.size, fun k hk => e.frame k hk (fun o => by simp [blk])⟩
theorem callA_from (hm : P.follows .mixedOrders = true) {p : AProg} (hp : TrProg P p) {N n : Nat} {f : FuncId} (hny : f ≠ YLD) {args : List V} {v : V} {h' : Heap} (hc : callA p N n f args [] = some (v, h')) (w : World) (xs : Array Value) (hl : xs.size = args.length)
    (hx : ∀ i c, args[i]? = some c → VRel ⟨fun _ _ => none, fun b => b < w.heap.size, codesOf P⟩ w c (xs.getD i undef)) :
    Calls P f xs w fun e w' => ∃ x g', e = .returned x ∧ VRel g' w' v x ∧ RowKit.Below w.heap.size w w' :=
  (((callA_ok hm hp N n).fn f args [] v h' hny hc).2 _ w xs rfl (sim_start P w) hl hx).mono fun e w' ⟨x, g', h1, h2, h3, h4⟩ => ⟨x, g', h1, h4, below_of h3⟩
theorem law_from (hm : P.follows .mixedOrders = true) {p : AProg} (hp : TrProg P p) {N n : Nat} {f : FuncId} {args : List V} {h' : Heap} (hc : callA p N n f args [] = some (.bool true, h')) (w : World) (xs : Array Value) (hl : xs.size = args.length)
    (hx : ∀ i c, args[i]? = some c → VRel ⟨fun _ _ => none, fun b => b < w.heap.size, codesOf P⟩ w c (xs.getD i undef)) (hny : f ≠ YLD := by decide) :
    Calls P f xs w fun e w' => e = .returned (.bool true) ∧ RowKit.Below w.heap.size w w' :=
  (callA_from hm hp hny hc w xs hl hx).mono fun e w' ⟨x, g', h1, h2, h3⟩ => by cases h2; exact ⟨h1, h3⟩
end Go.Am


set_option linter.unusedVariables false
namespace Go.Am
variable {P : Program}
def makes (P : Program) : Op → Bool
  | .alloc _ | .box .. | .makeSlice .. | .makeMap .. => true
  | .convert src dst _ => match P.underlying src, P.underlying dst with | some .string, some (.slice _) => true | _, _ => false
  | .buildSlice t .. => match P.underlying t with | some (.slice e) => isByte P e | _ => false
  | .call { callee := .builtin .append, .. } => true
  | _ => false
def siteDsts (P : Program) : Code → List Nat
  | .region _ ops _ => ops.toList.filterMap fun o => if makes P o.op then o.dst else none
  | .seq a b => siteDsts P a ++ siteDsts P b
  | .cond _ a b => siteDsts P a ++ siteDsts P b
  | .block _ b | .loop b | .scope b => siteDsts P b
  | .rangeFunc _ _ a b => siteDsts P a ++ siteDsts P b
  | _ => []
def bitIn (m d : Nat) : Bool := Nat.beq ((m >>> d) % 2) 1
def bitAdd (m d : Nat) : Nat := m ||| (1 <<< d)
def bitDel (m d : Nat) : Nat := match bitIn m d with | true => m - (1 <<< d) | false => m
def bitSub (m n : Nat) : Nat := m - (m &&& n)
def bitsOf : Nat → Nat → List Nat
  | 0, _ => []
  | n + 1, m => match Nat.beq m 0 with | true => [] | false => Nat.log2 m :: bitsOf n (m - (1 <<< Nat.log2 m))
def opdBits (m : Nat) : Operand → Nat
  | .tmp t => bitAdd m t
  | _ => m
def operBits (ops : Array Oper) (o : Oper) (m : Nat) : Nat :=
  let m := match o.dst with | some d => bitDel m d | none => m
  let m := o.op.operands.toList.foldl opdBits m
  match o.guard with
  | some (g, _) => match ops[g]? with | some o' => (match o'.dst with | some d => bitAdd m d | none => m) | none => m
  | none => m
def dstBits (m : Nat) (o : Oper) : Nat := match o.dst with | some d => bitAdd m d | none => m
def exitBits (E : List (Nat × Nat)) (id : Nat) : Nat := match E with | [] => 0 | (i, m) :: E => match Nat.beq i id with | true => m | false => exitBits E id
def lives : Nat → List (Nat × Nat) → Nat → Code → LT × Nat
  | _, _, m, .region _ ops _ =>
    let i := ops.toList.foldr (fun o m => operBits ops o m) m
    (.node (bitsOf 10000 (bitSub (ops.toList.foldl dstBits i) m)) .nil .nil, i)
  | R, E, m, .seq a b => let (tb, ib) := lives R E m b; let (ta, ia) := lives R E ib a; (.node [] ta tb, ia)
  | R, E, m, .cond c a b =>
    let (ta, ia) := lives R E m a
    let (tb, ib) := lives R E m b
    let i := opdBits (ia ||| ib) c
    (.node [] (.node (bitsOf 10000 (bitSub i ia)) ta .nil) (.node (bitsOf 10000 (bitSub i ib)) tb .nil), i)
  | R, E, m, .block id b => let (t, i) := lives R ((id, m) :: E) m b; (.node [] t .nil, i)
  | R, E, m, .loop b => let i := (lives R E 0 b).2; let (t, i') := lives R E i b; (.node [] t .nil, i ||| i')
  | R, E, m, .scope b => lives R E m b
  | _, E, _, .exit id => (.nil, exitBits E id)
  | R, _, _, .ret => (.nil, R)
  | R, E, m, .rangeFunc g _ a b =>
    let (tb, ib) := lives 0 [] 0 b
    let (ta, ia) := lives 0 [] ib a
    (.node [] ta tb, opdBits (E.foldl (fun k e => k ||| e.2) (m ||| R) ||| ia) g)
  | _, _, m, _ => (.nil, m)
def resBits (m : Nat) : ResultVar → Nat
  | .tmp t => bitAdd m t
  | .cell a _ => bitAdd m a
def livesF (fn : Func) (c : Code) : LT :=
  let R := fn.results.toList.foldl resBits 0
  (lives R [] R c).1
def freshT (P : Program) (n : Nat) : Code → LT → LT
  | .loop b, lt => .node lt.here (freshT P n b lt.fst) (match siteDsts P b with | [] => .nil | _ => .node [n] .nil .nil)
  | .seq a b, lt => .node lt.here (freshT P n a lt.fst) (freshT P n b lt.snd)
  | .cond _ a b, lt => .node lt.here (.node lt.fst.here (freshT P n a lt.fst.fst) .nil) (.node lt.snd.here (freshT P n b lt.snd.fst) .nil)
  | .block _ b, lt => .node lt.here (freshT P n b lt.fst) .nil
  | .scope b, lt => freshT P n b lt
  | _, lt => lt
def trFf (P : Program) (p : AProg) (mode : FMode) (fid : Nat) (fn : Func) : Option AFunc :=
  match fn.body with
  | none => none
  | some c =>
    match fn.name == "runtime.NumGoroutine", trCode P (pureOf p) (siteDsts P c) fid false 0 (freshT P ((siteDsts P c).length + (rangesOf c).length) c (livesF fn c)) c, fn.results.toList.mapM (trRes P) with
    | false, some b, some rs => some { nargs := fn.params.size + fn.nfree, nt := fn.ntmps, sites := (siteDsts P c).length + (rangesOf c).length, mode := mode, body := b, res := rs }
    | _, _, _ => none
theorem trFf_ok {p : AProg} {mode : FMode} {fid : Nat} {fn : Func} {af : AFunc} (h : trFf P p mode fid fn = some af) : TrFunc P p fid fn af := by
  unfold trFf at h
  split at h
  · cases h
  rename_i c hc
  split at h
  · rename_i b rs h1 h2 h3
    cases h
    exact ⟨h1, ⟨c, _, _, hc, h2⟩, rfl, h3⟩
  · cases h
def trF (P : Program) (p : AProg) (mode : FMode) (fid : Nat) (fn : Func) : Option AFunc :=
  match fn.body with
  | none => none
  | some c =>
    match fn.name == "runtime.NumGoroutine", trCode P (pureOf p) (siteDsts P c) fid false 0 (livesF fn c) c, fn.results.toList.mapM (trRes P) with
    | false, some b, some rs => some { nargs := fn.params.size + fn.nfree, nt := fn.ntmps, sites := (siteDsts P c).length + (rangesOf c).length, mode := mode, body := b, res := rs }
    | _, _, _ => none
theorem trF_ok {p : AProg} {mode : FMode} {fid : Nat} {fn : Func} {af : AFunc} (h : trF P p mode fid fn = some af) : TrFunc P p fid fn af := by
  unfold trF at h
  split at h
  · cases h
  rename_i c hc
  split at h
  · rename_i b rs h1 h2 h3
    cases h
    exact ⟨h1, ⟨c, _, _, hc, h2⟩, rfl, h3⟩
  · cases h
def TrAll (P : Program) (p : AProg) : List (Option AFunc) → Nat → Prop
  | [], _ => True
  | none :: l, k => TrAll P p l (k + 1)
  | some af :: l, k => (∃ fn, P.funcs[k]? = some fn ∧ (trF P p af.mode k fn = some af ∨ trFf P p af.mode k fn = some af)) ∧ TrAll P p l (k + 1)
theorem trAll_get {p : AProg} : ∀ {l : List (Option AFunc)} {k : Nat}, TrAll P p l k → ∀ (f : Nat) (af : AFunc), l[f]? = some (some af) → ∃ fn, P.funcs[k + f]? = some fn ∧ (trF P p af.mode (k + f) fn = some af ∨ trFf P p af.mode (k + f) fn = some af)
  | [], k, h, f, af, hf => by simp at hf
  | none :: l, k, h, f, af, hf => by
    cases f with
    | zero => simp at hf
    | succ f =>
      have := trAll_get (l := l) (k := k + 1) h f af (by simpa using hf)
      rw [show k + 1 + f = k + (f + 1) by omega] at this
      exact this
  | some a :: l, k, h, f, af, hf => by
    cases f with
    | zero => simp at hf; subst hf; exact h.1
    | succ f =>
      have := trAll_get (l := l) (k := k + 1) h.2 f af (by simpa using hf)
      rw [show k + 1 + f = k + (f + 1) by omega] at this
      exact this
theorem trProg_of {p : AProg} (h : TrAll P p p 0) : TrProg P p := fun f af hf => by
  obtain ⟨fn, h1, h2⟩ := trAll_get h f af hf
  rw [Nat.zero_add] at h1 h2
  exact ⟨fn, h1, h2.elim trF_ok trFf_ok⟩
end Go.Am


set_option linter.unusedVariables false
set_option linter.unusedSimpArgs false
namespace Go.Am
def get : List (Nat × V) → Nat → V
  | [], _ => .junk
  | (j, v) :: l, i => if i = j then v else get l i
def ins (i : Nat) (x : V) : List (Nat × V) → List (Nat × V)
  | [] => [(i, x)]
  | (j, v) :: l => if i = j then (i, x) :: l else if i < j then (i, x) :: (j, v) :: l else (j, v) :: ins i x l
def del (i : Nat) : List (Nat × V) → List (Nat × V)
  | [] => []
  | (j, v) :: l => if i = j then del i l else (j, v) :: del i l
def dels (is : List Nat) (l : List (Nat × V)) : List (Nat × V) := match is with | [] => l | i :: is => dels is (del i l)
def fr (n : Nat) (l : List (Nat × V)) : List V := (List.range n).map (get l)
def argsF : Nat → List V → List (Nat × V)
  | _, [] => []
  | i, v :: l => (i, v) :: argsF (i + 1) l
theorem fr_length (n : Nat) (l : List (Nat × V)) : (fr n l).length = n := by simp [fr]
theorem fr_getD {n : Nat} {l : List (Nat × V)} {i : Nat} (h : i < n) : (fr n l).getD i .junk = get l i := by
  simp [fr, List.getD_eq_getElem?_getD, h]
theorem fr_get? {n : Nat} {l : List (Nat × V)} {i : Nat} (h : i < n) : (fr n l)[i]? = some (get l i) := by
  simp [fr, h]
theorem get_ins (i : Nat) (x : V) (j : Nat) : ∀ (l : List (Nat × V)), get (ins i x l) j = if j = i then x else get l j
  | [] => by simp [ins, get]
  | (k, v) :: l => by
    unfold ins
    split
    · rename_i h
      subst h
      simp only [get]
      split <;> rfl
    · split
      · simp only [get]
      · rename_i h1 h2
        simp only [get, get_ins i x j l]
        by_cases e : j = k
        · subst e
          rw [if_pos rfl, if_neg (fun e => h1 e.symm), if_pos rfl]
        · rw [if_neg e, if_neg e]
theorem get_del (i j : Nat) : ∀ (l : List (Nat × V)), get (del i l) j = if j = i then .junk else get l j
  | [] => by simp [del, get]
  | (k, v) :: l => by
    unfold del
    split
    · rename_i h
      subst h
      rw [get_del i j l]
      simp only [get]
      split <;> rfl
    · rename_i h1
      simp only [get, get_del i j l]
      by_cases e : j = k
      · subst e
        rw [if_pos rfl, if_neg (fun e => h1 e.symm), if_pos rfl]
      · rw [if_neg e, if_neg e]
theorem fr_set (n : Nat) (l : List (Nat × V)) (i : Nat) (x : V) : (fr n l).set i x = fr n (ins i x l) := by
  apply List.ext_getElem?
  intro j
  rcases Nat.lt_or_ge j n with h | h
  · rw [fr_get? h, get_ins]
    by_cases e : j = i
    · subst e
      rw [if_pos rfl, List.getElem?_set_self (by rw [fr_length]; exact h)]
    · rw [if_neg e, List.getElem?_set_ne (Ne.symm e), fr_get? h]
  · rw [List.getElem?_eq_none (by rw [List.length_set, fr_length]; exact h), List.getElem?_eq_none (by rw [fr_length]; exact h)]
theorem fr_del (n : Nat) (l : List (Nat × V)) (i : Nat) : (fr n l).set i .junk = fr n (del i l) := by
  rw [fr_set]
  unfold fr
  apply List.map_congr_left
  intro j _
  rw [get_ins, get_del]
theorem fr_clear (n : Nat) : ∀ (is : List Nat) (l : List (Nat × V)), clear is (fr n l) = fr n (dels is l)
  | [], l => rfl
  | i :: is, l => by
    have : clear (i :: is) (fr n l) = clear is ((fr n l).set i .junk) := rfl
    rw [this, fr_del, fr_clear n is]
    rfl
theorem get_argsF : ∀ (l : List V) (k i : Nat), get (argsF k l) i = if i < k then .junk else l.getD (i - k) .junk
  | [], k, i => by simp [argsF, get]
  | v :: l, k, i => by
    simp only [argsF, get, get_argsF l]
    by_cases h : i = k
    · subst h; simp
    · rw [if_neg h]
      by_cases h1 : i < k
      · rw [if_pos (by omega), if_pos h1]
      · rw [if_neg (by omega), if_neg h1, show i - k = (i - (k + 1)) + 1 by omega, List.getD_cons_succ]
theorem fr_args (args : List V) (n : Nat) (h : args.length ≤ n) : args ++ List.replicate (n - args.length) .junk = fr n (argsF 0 args) := by
  apply List.ext_getElem?
  intro i
  rcases Nat.lt_or_ge i n with hi | hi
  · rw [fr_get? hi, get_argsF, if_neg (by omega), Nat.sub_zero, List.getD_eq_getElem?_getD]
    rcases Nat.lt_or_ge i args.length with k | k
    · rw [List.getElem?_append_left k, List.getElem?_eq_getElem k]; rfl
    · rw [List.getElem?_append_right k, List.getElem?_replicate, if_pos (by omega), List.getElem?_eq_none k]; rfl
  · rw [List.getElem?_eq_none (by simp; omega), List.getElem?_eq_none (by rw [fr_length]; exact hi)]
theorem ev_fr {n : Nat} {l : List (Nat × V)} {i : Nat} (h : i < n) : ev (fr n l) (.tmp i) = get l i := fr_getD h
theorem ev_cst (t : List V) (v : V) : ev t (.cst v) = v := rfl
theorem put_none (t : List V) (v : V) : put t none v = t := rfl
theorem put_fr (n : Nat) (l : List (Nat × V)) (i : Nat) (v : V) : put (fr n l) (some i) v = fr n (ins i v l) := fr_set n l i v
structure Env where
  pureF : FuncId → FMode
  call : Caller
  N : Nat
  fb : Nat
def Env.framed (E : Env) : Env := { E with call := frameC E.pureF E.call }
abbrev Post := Ex → List V → Heap → Prop
def wp (E : Env) (c : ACode) (t : List V) (h : Heap) (Q : Post) : Prop :=
  match exec E.pureF E.call E.N E.fb c t h with
  | some (e, t', h') => Q e t' h'
  | none => False
def seqQ (E : Env) (b : ACode) (Q : Post) : Post := fun e t h =>
  match e with
  | .norm => wp E b t h Q
  | e => Q e t h
def blkQ (id : Nat) (Q : Post) : Post := fun e t h =>
  match e with
  | .exit i => if i = id then Q .norm t h else Q (.exit i) t h
  | e => Q e t h
def condP (E : Env) (v : V) (a b : ACode) (t : List V) (h : Heap) (Q : Post) : Prop :=
  match v with
  | .bool x => (x = true → wp E a t h Q) ∧ (x = false → wp E b t h Q)
  | _ => False
abbrev Cont := List V → Heap → Prop
def wpo (E : Env) (ops : List AOper) (t : List V) (h : Heap) (K : Cont) : Prop :=
  match runOps E.call E.fb ops t h with
  | some (t', h') => K t' h'
  | none => False
def opK (E : Env) (dst : Option Nat) (os : List AOper) (t : List V) (K : Cont) (v : V) (h : Heap) : Prop := wpo E os (put t dst v) h K
def wcall (r : Option (V × Heap)) (C : V → Heap → Prop) : Prop :=
  match r with
  | some (v, h) => C v h
  | none => False
def effP (e : Option Eff) (h : Heap) (C : V → Heap → Prop) : Prop :=
  match e with
  | some (.ret v) => C v h
  | some (.set o x v) => C v (h.set o x)
  | none => False
def wop (E : Env) (op : AOp) (t : List V) (h : Heap) (C : V → Heap → Prop) : Prop :=
  wcall (doOp E.call E.fb op (ev t) h) C
def gdP (E : Env) (v : V) (want : Bool) (op : AOp) (dst : Option Nat) (os : List AOper) (t : List V) (h : Heap) (K : Cont) : Prop :=
  match v with
  | .bool x => (x = want → wop E op t h (opK E dst os t K)) ∧ (x = !want → wpo E os (put t dst (.tup [])) h K)
  | .tup [] => wpo E os (put t dst (.tup [])) h K
  | _ => False
theorem wp_clr {E : Env} {l : List Nat} {n : Nat} {t : List (Nat × V)} {h : Heap} {Q : Post} : wp E (.clr l) (fr n t) h Q = Q .norm (fr n (dels l t)) h := by
  rw [← fr_clear]; rfl
theorem wp_seq {E : Env} {a b : ACode} {t : List V} {h : Heap} {Q : Post} : wp E (.seq a b) t h Q = wp E a t h (seqQ E b Q) := by
  unfold wp
  simp only [exec]
  cases exec E.pureF E.call E.N E.fb a t h with
  | none => rfl
  | some r => obtain ⟨e, t', h'⟩ := r; cases e <;> rfl
theorem wp_block {E : Env} {i : Nat} {b : ACode} {t : List V} {h : Heap} {Q : Post} : wp E (.block i b) t h Q = wp E b t h (blkQ i Q) := by
  unfold wp
  simp only [exec]
  cases exec E.pureF E.call E.N E.fb b t h with
  | none => rfl
  | some r =>
    obtain ⟨e, t', h'⟩ := r
    cases e with
    | exit j => by_cases hj : j = i <;> simp [blkQ, hj]
    | _ => rfl
theorem blkQ_norm {i : Nat} {Q : Post} {t : List V} {h : Heap} : blkQ i Q .norm t h = Q .norm t h := rfl
theorem blkQ_ret {i : Nat} {Q : Post} {t : List V} {h : Heap} : blkQ i Q .ret t h = Q .ret t h := rfl
theorem blkQ_exit {i j : Nat} {Q : Post} {t : List V} {h : Heap} : blkQ i Q (.exit j) t h = if j = i then Q .norm t h else Q (.exit j) t h := rfl
theorem wp_cond {E : Env} {c : Opd} {a b : ACode} {t : List V} {h : Heap} {Q : Post} : wp E (.cond c a b) t h Q = condP E (ev t c) a b t h Q := by
  unfold wp condP
  simp only [exec]
  cases ev t c with
  | bool x => cases x <;> simp [wp]
  | _ => rfl
theorem wp_region {E : Env} {ops : List AOper} {t : List V} {h : Heap} {Q : Post} : wp E (.region ops) t h Q = wpo E ops t h (Q .norm) := by
  unfold wp wpo
  simp only [exec]
  cases runOps E.call E.fb ops t h <;> rfl
theorem wpo_cons {E : Env} {dst : Option Nat} {op : AOp} {os : List AOper} {t : List V} {h : Heap} {K : Cont} : wpo E (⟨dst, op, none⟩ :: os) t h K = wop E op t h (opK E dst os t K) := by
  unfold wpo wop
  simp only [runOps, stepOp, wanted]
  cases doOp E.call E.fb op (ev t) h <;> rfl
theorem wpo_guard {E : Env} {dst : Option Nat} {op : AOp} {g : Nat} {w : Bool} {os : List AOper} {t : List V} {h : Heap} {K : Cont} :
    wpo E (⟨dst, op, some (g, w)⟩ :: os) t h K = gdP E (ev t (.tmp g)) w op dst os t h K := by
  unfold wpo gdP
  simp only [runOps, stepOp, wanted, ev]
  cases t.getD g .junk with
  | bool b =>
    cases b <;> cases w <;> simp [wop, wpo, opK] <;> cases doOp E.call E.fb op (ev t) h <;> rfl
  | tup l => cases l <;> rfl
  | _ => rfl
theorem wcall_some {v : V} {h : Heap} {C : V → Heap → Prop} : wcall (some (v, h)) C = C v h := rfl
theorem effP_ret {v : V} {h : Heap} {C : V → Heap → Prop} : effP (some (.ret v)) h C = C v h := rfl
theorem effP_set {o : Nat} {x : Ob} {v : V} {h : Heap} {C : V → Heap → Prop} : effP (some (.set o x v)) h C = C v (h.set o x) := rfl
theorem effP_none {h : Heap} {C : V → Heap → Prop} : effP none h C = False := rfl
theorem effP_ite {p : Prop} [Decidable p] {a b : Option Eff} {h : Heap} {C : V → Heap → Prop} : effP (if p then a else b) h C = ((p → effP a h C) ∧ (¬ p → effP b h C)) := by
  by_cases hp : p <;> simp [hp]
theorem wop_call {E : Env} {f : FuncId} {args : List Opd} {t : List V} {h : Heap} {C : V → Heap → Prop} (hy : f ≠ 1000000007) : wop E (.call f args) t h C = wcall (E.call f (args.map (ev t)) h) C := by
  have hy' : ¬ f = YLD := hy
  simp only [wop, doOp, if_neg hy']
theorem wop_prim {E : Env} {op : AOp} {t : List V} {h : Heap} {C : V → Heap → Prop} (hc : ∀ f args, op ≠ .call f args) (hv : ∀ f args, op ≠ .callv f args) :
    wop E op t h C = effP (prim E.fb (ev t) (fun o => h[o]?) op) h C := by
  unfold wop effP
  have : doOp E.call E.fb op (ev t) h = match prim E.fb (ev t) (fun o => h[o]?) op with | some (.ret v) => some (v, h) | some (.set o x v) => some (v, h.set o x) | none => none := by
    cases op <;> first | rfl | exact absurd rfl (hc _ _) | exact absurd rfl (hv _ _)
  rw [this]
  cases prim E.fb (ev t) (fun o => h[o]?) op with
  | none => rfl
  | some e => cases e <;> rfl
theorem wp_mono {E : Env} {c : ACode} {t : List V} {h : Heap} {Q Q' : Post} (H : wp E c t h Q) (hQ : ∀ e t h, Q e t h → Q' e t h) : wp E c t h Q' := by
  unfold wp at *
  cases he : exec E.pureF E.call E.N E.fb c t h with
  | none => rw [he] at H; exact H
  | some r => rw [he] at H; exact hQ _ _ _ H
def loopQ (i k : Nat) (I : Nat → List V → Heap → Prop) (Q : Post) : Post := fun e t h =>
  match e with
  | .norm => i < k ∧ I (i + 1) t h
  | e => Q e t h
theorem loopQ_norm {i k : Nat} {I : Nat → List V → Heap → Prop} {Q : Post} {t : List V} {h : Heap} : loopQ i k I Q .norm t h = (i < k ∧ I (i + 1) t h) := rfl
theorem loopQ_exit {i k j : Nat} {I : Nat → List V → Heap → Prop} {Q : Post} {t : List V} {h : Heap} : loopQ i k I Q (.exit j) t h = Q (.exit j) t h := rfl
theorem loopQ_ret {i k : Nat} {I : Nat → List V → Heap → Prop} {Q : Post} {t : List V} {h : Heap} : loopQ i k I Q .ret t h = Q .ret t h := rfl
theorem wp_loop {E : Env} {b : ACode} {t : List V} {h : Heap} {Q : Post} (I : Nat → List V → Heap → Prop) (k : Nat) (hk : k < E.N) (h0 : I 0 t h)
    (hs : ∀ i t h, i ≤ k → I i t h → wp E b t h (loopQ i k I Q)) : wp E (.loop [] [] b) t h Q := by
  unfold wp
  simp only [exec]
  have key : ∀ (m i : Nat) (t : List V) (h : Heap), i ≤ k → k - i < m → I i t h →
      match loopN (exec E.pureF E.call E.N E.fb b) (fun t h => (clear [] t, killA E.fb [] h)) m t h with | some (e, t', h') => Q e t' h' | none => False := by
    intro m
    induction m with
    | zero => intro i t h _ hm; omega
    | succ m ih =>
      intro i t h hi hm hI
      have H := hs i t h hi hI
      unfold wp at H
      simp only [loopN, clear, killA, List.foldl]
      cases he : exec E.pureF E.call E.N E.fb b t h with
      | none => rw [he] at H; exact H
      | some r =>
        obtain ⟨e, t', h'⟩ := r
        rw [he] at H
        cases e with
        | norm =>
          obtain ⟨h1, h2⟩ := H
          exact ih (i + 1) t' h' (by omega) (by omega) h2
        | _ => exact H
  exact key E.N 0 t h (Nat.zero_le _) (by omega) h0
def wpd (E : Env) (n : Nat) (ops : List (AOper × List Nat)) (fps : List FpT) (t : List V) (h : Heap) (K : Cont) : Prop :=
  match runDraw E.pureF E.call E.fb n ops fps t h with
  | some (t', h') => K t' h'
  | none => False
theorem wp_draw {E : Env} {ops : List (AOper × List Nat)} {t : List V} {h : Heap} {Q : Post} : wp E (.draw ops) t h Q = wpd E.framed h.length ops [] t h (Q .norm) := by
  unfold wp wpd
  simp only [exec, Env.framed]
  cases runDraw E.pureF (frameC E.pureF E.call) E.fb h.length ops [] t h <;> rfl
def plainD (ops : List (AOper × List Nat)) : Bool := ops.all fun x => x.2.isEmpty
theorem runDraw_plain {pureF : FuncId → FMode} {call : Caller} {fb n : Nat} : ∀ (ops : List (AOper × List Nat)) (fps : List FpT) (t : List V) (h : Heap), plainD ops = true →
    runDraw pureF call fb n ops fps t h = runOps call fb (ops.map (·.1)) t h
  | [], fps, t, h, _ => rfl
  | (o, ps) :: os, fps, t, h, hp => by
    simp only [plainD, List.all_cons, Bool.and_eq_true, List.isEmpty_iff] at hp
    obtain ⟨rfl, hp⟩ := hp
    simp only [runDraw, List.all_nil, ↓reduceIte, List.map_cons, runOps]
    cases stepOp call fb o t h with
    | none => rfl
    | some r => exact runDraw_plain os _ _ _ hp
theorem wp_draw_plain {E : Env} {ops : List (AOper × List Nat)} {t : List V} {h : Heap} {Q : Post} (hp : plainD ops = true) : wp E (.draw ops) t h Q = wpo E.framed (ops.map (·.1)) t h (Q .norm) := by
  rw [wp_draw]
  unfold wpd wpo
  rw [runDraw_plain ops _ _ _ hp]
theorem framed_pureF {E : Env} : E.framed.pureF = E.pureF := rfl
theorem framed_fb {E : Env} : E.framed.fb = E.fb := rfl
theorem framed_N {E : Env} : E.framed.N = E.N := rfl
theorem framed_pure {E : Env} {f : FuncId} {args : List V} {h : Heap} (hf : E.pureF f = .pure) (hy : f ≠ 1000000007) : E.framed.call f args h = E.call f args h := by
  have hy' : ¬ f = YLD := hy
  simp [Env.framed, frameC, hf, hy']
def retQ (res : List ARes) (C : V → Heap → Prop) : Post := fun e t h =>
  match e with
  | .exit _ => False
  | _ => match resA (fun o => h[o]?) t res with | some vs => C (packR vs) h | none => False
theorem retQ_norm {res : List ARes} {C : V → Heap → Prop} {t : List V} {h : Heap} : retQ res C .norm t h = (match resA (fun o => h[o]?) t res with | some vs => C (packR vs) h | none => False) := rfl
theorem retQ_ret {res : List ARes} {C : V → Heap → Prop} {t : List V} {h : Heap} : retQ res C .ret t h = (match resA (fun o => h[o]?) t res with | some vs => C (packR vs) h | none => False) := rfl
theorem body_of_wp {p : AProg} {call : Caller} {N fb : Nat} {fn : AFunc} {args : List V} {h : Heap} {C : V → Heap → Prop} (hl : args.length ≤ fn.nt)
    (H : wp ⟨pureOf p, call, N, fb⟩ fn.body (fr fn.nt (argsF 0 args)) h (retQ fn.res C)) : ∃ v h', bodyA p call N fb fn args h = some (v, h') ∧ C v h' := by
  unfold bodyA
  rw [fr_args args fn.nt hl]
  unfold wp at H
  simp only at H
  split at H
  · rename_i e t' h' he
    rw [he]
    cases e with
    | exit i => exact H.elim
    | norm =>
      simp only [retQ] at H
      split at H
      · rename_i vs hr; exact ⟨_, _, by simp only [hr], H⟩
      · exact H.elim
    | ret =>
      simp only [retQ] at H
      split at H
      · rename_i vs hr; exact ⟨_, _, by simp only [hr], H⟩
      · exact H.elim
  · exact H.elim
theorem call_pure {p : AProg} {N n : Nat} {f : FuncId} {fn : AFunc} {args : List V} {h : Heap} {v : V} (hf : p[f]? = some (some fn)) (hm : fn.mode = .pure) (ha : args.length = fn.nargs) (hl : fn.nargs ≤ fn.nt)
    (hfree : V.freeL args = true)
    (H : wp ⟨pureOf p, callA p N n, N, 0⟩ fn.body (fr fn.nt (argsF 0 args)) (deads fn.sites) (retQ fn.res fun x h' => V.shut (fun o => h'[o]?) sealDepth x = some v)) (hy : f ≠ YLD := by decide) :
    callA p N (n + 1) f args h = some (v, h) := by
  obtain ⟨x, h', hb, hs⟩ := body_of_wp (by omega) H
  unfold callA
  rw [if_neg hy]
  simp only [hf, ha, ↓reduceIte, hm, hfree, hb, hs]
def selV (y : Bool) (v : V) : V := match y with | true => v | false => .tup []
def impB (y : Bool) (P : Prop) : Prop := y = true → P
def valOf (r : Option (V × Heap)) : V := match r with | some (v, _) => v | none => .junk
def retH (r : Option (V × Heap)) (h : Heap) : Prop := match r with | some (_, h') => h' = h | none => False
def stays (pureF : FuncId → FMode) : AOp → Bool
  | .allocz .. | .box .. | .store .. | .s2b .. | .mkslice .. | .append .. | .copy .. | .callv .. | .clearS .. | .bnew .. => false
  | .call f _ => match pureF f with | .pure => true | .look => true | _ => false
  | _ => true
def wantB (x want : Bool) : Bool := match want with | true => x | false => !x
def sxo (E : Env) : List AOper → List V → Heap → Cont → Prop
  | [], t, h, K => K t h
  | o :: os, t, h, K =>
    match o.guard with
    | none => wcall (doOp E.call E.fb o.op (ev t) h) fun v h' => sxo E os (put t o.dst v) h' K
    | some (g, want) =>
      match ev t (.tmp g) with
      | .bool x =>
        match stays E.pureF o.op with
        | true => impB (wantB x want) (retH (doOp E.call E.fb o.op (ev t) h) h) ∧ sxo E os (put t o.dst (selV (wantB x want) (valOf (doOp E.call E.fb o.op (ev t) h)))) h K
        | false => (wantB x want = true → wcall (doOp E.call E.fb o.op (ev t) h) fun v h' => sxo E os (put t o.dst v) h' K) ∧ (wantB x want = false → sxo E os (put t o.dst (.tup [])) h K)
      | .tup [] => sxo E os (put t o.dst (.tup [])) h K
      | _ => False
def sxK (E : Env) (dst : Option Nat) (os : List AOper) (t : List V) (K : Cont) (v : V) (h : Heap) : Prop := sxo E os (put t dst v) h K
def gdS (E : Env) (v : V) (want st : Bool) (op : AOp) (dst : Option Nat) (os : List AOper) (t : List V) (h : Heap) (K : Cont) : Prop :=
  match v with
  | .bool x =>
    match st with
    | true => impB (wantB x want) (retH (doOp E.call E.fb op (ev t) h) h) ∧ sxo E os (put t dst (selV (wantB x want) (valOf (doOp E.call E.fb op (ev t) h)))) h K
    | false => (wantB x want = true → wcall (doOp E.call E.fb op (ev t) h) (sxK E dst os t K)) ∧ (wantB x want = false → sxo E os (put t dst (.tup [])) h K)
  | .tup [] => sxo E os (put t dst (.tup [])) h K
  | _ => False
theorem sxo_wpo {E : Env} : ∀ {ops : List AOper} {t : List V} {h : Heap} {K : Cont}, sxo E ops t h K → wpo E ops t h K
  | [], t, h, K, H => H
  | ⟨dst, op, none⟩ :: os, t, h, K, H => by
    rw [wpo_cons]
    simp only [sxo] at H
    unfold wop
    cases hd : doOp E.call E.fb op (ev t) h with
    | none => rw [hd] at H; exact H
    | some r => rw [hd] at H; exact sxo_wpo H
  | ⟨dst, op, some (g, want)⟩ :: os, t, h, K, H => by
    rw [wpo_guard]
    simp only [sxo] at H
    unfold gdP
    split at H
    · rename_i x hx
      split at H
      · obtain ⟨h1, h2⟩ := H
        refine ⟨fun e => ?_, fun e => ?_⟩
        · subst e
          have hw : wantB x x = true := by cases x <;> rfl
          rw [hw] at h1 h2
          have h1 := h1 rfl
          unfold wop
          cases hd : doOp E.call E.fb op (ev t) h with
          | none => rw [hd] at h1; exact h1
          | some r =>
            obtain ⟨v, h'⟩ := r
            rw [hd] at h1 h2
            simp only [retH] at h1
            subst h1
            exact sxo_wpo h2
        · subst e
          have hw : wantB (!want) want = false := by cases want <;> rfl
          rw [hw] at h2
          exact sxo_wpo h2
      · obtain ⟨h1, h2⟩ := H
        refine ⟨fun e => ?_, fun e => ?_⟩
        · subst e
          have h1 := h1 (by cases x <;> rfl)
          unfold wop
          cases hd : doOp E.call E.fb op (ev t) h with
          | none => rw [hd] at h1; exact h1
          | some r => rw [hd] at h1; exact sxo_wpo h1
        · subst e
          exact sxo_wpo (h2 (by cases want <;> rfl))
    · exact sxo_wpo H
    · exact H.elim
def sx (E : Env) : ACode → List V → Heap → Post → Prop
  | .seq a b, t, h, Q => sx E a t h fun e t h => match e with | .norm => sx E b t h Q | e => Q e t h
  | .cond c a b, t, h, Q => match ev t c with | .bool x => (x = true → sx E a t h Q) ∧ (x = false → sx E b t h Q) | _ => False
  | .block i b, t, h, Q => sx E b t h (blkQ i Q)
  | .region ops, t, h, Q => sxo E ops t h (Q .norm)
  | .draw ops, t, h, Q => match plainD ops with | true => sxo E.framed (ops.map (·.1)) t h (Q .norm) | false => wpd E.framed h.length ops [] t h (Q .norm)
  | .fresh n c, t, h, Q => sx { E with fb := h.length } c t (h ++ deads n) Q
  | c, t, h, Q => wp E c t h Q
def sqQ (E : Env) (b : ACode) (Q : Post) : Post := fun e t h => match e with | .norm => sx E b t h Q | e => Q e t h
def cdP (E : Env) (v : V) (a b : ACode) (t : List V) (h : Heap) (Q : Post) : Prop :=
  match v with
  | .bool x => (x = true → sx E a t h Q) ∧ (x = false → sx E b t h Q)
  | _ => False
theorem sx_wp {E : Env} : ∀ {c : ACode} {t : List V} {h : Heap} {Q : Post}, sx E c t h Q → wp E c t h Q
  | .seq a b, t, h, Q, H => by
    rw [wp_seq]
    refine wp_mono (sx_wp (c := a) H) fun e t h H => ?_
    cases e with
    | norm => exact sx_wp (c := b) H
    | exit i => exact H
    | ret => exact H
  | .cond c a b, t, h, Q, H => by
    rw [wp_cond]
    simp only [sx] at H
    unfold condP
    split at H
    · exact ⟨fun e => sx_wp (H.1 e), fun e => sx_wp (H.2 e)⟩
    · exact H.elim
  | .block i b, t, h, Q, H => by rw [wp_block]; exact sx_wp (c := b) H
  | .region ops, t, h, Q, H => by rw [wp_region]; exact sxo_wpo H
  | .draw ops, t, h, Q, H => by
    simp only [sx] at H
    split at H
    · rename_i hp; rw [wp_draw_plain hp]; exact sxo_wpo H
    · rw [wp_draw]; exact H
  | .skip, t, h, Q, H => H
  | .loop _ _ _, t, h, Q, H => H
  | .exit _, t, h, Q, H => H
  | .ret, t, h, Q, H => H
  | .clr _, t, h, Q, H => H
  | .rangeF _ _ _ _ _ _ _, t, h, Q, H => H
  | .fresh n c, t, h, Q, H => sx_wp (E := { E with fb := h.length }) (c := c) (t := t) (h := h ++ deads n) (Q := Q) H
theorem sx_fresh {E : Env} {n : Nat} {c : ACode} {t : List V} {h : Heap} {Q : Post} : sx E (.fresh n c) t h Q = sx { E with fb := h.length } c t (h ++ deads n) Q := rfl
theorem sx_seq {E : Env} {a b : ACode} {t : List V} {h : Heap} {Q : Post} : sx E (.seq a b) t h Q = sx E a t h (sqQ E b Q) := rfl
theorem sqQ_norm {E : Env} {b : ACode} {Q : Post} {t : List V} {h : Heap} : sqQ E b Q .norm t h = sx E b t h Q := rfl
theorem sqQ_exit {E : Env} {b : ACode} {Q : Post} {i : Nat} {t : List V} {h : Heap} : sqQ E b Q (.exit i) t h = Q (.exit i) t h := rfl
theorem sqQ_ret {E : Env} {b : ACode} {Q : Post} {t : List V} {h : Heap} : sqQ E b Q .ret t h = Q .ret t h := rfl
theorem sx_cond {E : Env} {c : Opd} {a b : ACode} {t : List V} {h : Heap} {Q : Post} : sx E (.cond c a b) t h Q = cdP E (ev t c) a b t h Q := rfl
theorem cdP_true {E : Env} {a b : ACode} {t : List V} {h : Heap} {Q : Post} : cdP E (.bool true) a b t h Q = sx E a t h Q := by simp [cdP]
theorem cdP_false {E : Env} {a b : ACode} {t : List V} {h : Heap} {Q : Post} : cdP E (.bool false) a b t h Q = sx E b t h Q := by simp [cdP]
theorem cdP_bool {E : Env} {x : Bool} {a b : ACode} {t : List V} {h : Heap} {Q : Post} : cdP E (.bool x) a b t h Q = ((x = true → sx E a t h Q) ∧ (x = false → sx E b t h Q)) := rfl
theorem sx_block {E : Env} {i : Nat} {b : ACode} {t : List V} {h : Heap} {Q : Post} : sx E (.block i b) t h Q = sx E b t h (blkQ i Q) := rfl
theorem sx_region {E : Env} {ops : List AOper} {t : List V} {h : Heap} {Q : Post} : sx E (.region ops) t h Q = sxo E ops t h (Q .norm) := rfl
theorem sx_draw {E : Env} {ops : List (AOper × List Nat)} {t : List V} {h : Heap} {Q : Post} (hp : plainD ops = true) : sx E (.draw ops) t h Q = sxo E.framed (ops.map (·.1)) t h (Q .norm) := by simp only [sx, hp]
theorem sx_skip {E : Env} {t : List V} {h : Heap} {Q : Post} : sx E .skip t h Q = Q .norm t h := rfl
theorem sx_ret {E : Env} {t : List V} {h : Heap} {Q : Post} : sx E .ret t h Q = Q .ret t h := rfl
theorem sx_exit {E : Env} {i : Nat} {t : List V} {h : Heap} {Q : Post} : sx E (.exit i) t h Q = Q (.exit i) t h := rfl
theorem sx_clr {E : Env} {l : List Nat} {n : Nat} {t : List (Nat × V)} {h : Heap} {Q : Post} : sx E (.clr l) (fr n t) h Q = Q .norm (fr n (dels l t)) h := wp_clr
theorem sxo_nil {E : Env} {t : List V} {h : Heap} {K : Cont} : sxo E [] t h K = K t h := rfl
theorem sxo_cons {E : Env} {dst : Option Nat} {op : AOp} {os : List AOper} {t : List V} {h : Heap} {K : Cont} : sxo E (⟨dst, op, none⟩ :: os) t h K = wop E op t h (sxK E dst os t K) := rfl
theorem sxo_guard {E : Env} {dst : Option Nat} {op : AOp} {g : Nat} {w : Bool} {os : List AOper} {t : List V} {h : Heap} {K : Cont} :
    sxo E (⟨dst, op, some (g, w)⟩ :: os) t h K = gdS E (ev t (.tmp g)) w (stays E.pureF op) op dst os t h K := by
  simp only [sxo, gdS]
  rfl
theorem gdS_bool {E : Env} {x w : Bool} {op : AOp} {dst : Option Nat} {os : List AOper} {t : List V} {h : Heap} {K : Cont} :
    gdS E (.bool x) w true op dst os t h K = (impB (wantB x w) (retH (doOp E.call E.fb op (ev t) h) h) ∧ sxo E os (put t dst (selV (wantB x w) (valOf (doOp E.call E.fb op (ev t) h)))) h K) := rfl
theorem gdS_eff {E : Env} {x w : Bool} {op : AOp} {dst : Option Nat} {os : List AOper} {t : List V} {h : Heap} {K : Cont} :
    gdS E (.bool x) w false op dst os t h K = ((wantB x w = true → wop E op t h (sxK E dst os t K)) ∧ (wantB x w = false → sxo E os (put t dst (.tup [])) h K)) := rfl
theorem gdS_tup {E : Env} {w st : Bool} {op : AOp} {dst : Option Nat} {os : List AOper} {t : List V} {h : Heap} {K : Cont} : gdS E (.tup []) w st op dst os t h K = sxo E os (put t dst (.tup [])) h K := rfl
theorem gdS_sel {E : Env} {x y w : Bool} {op : AOp} {dst : Option Nat} {os : List AOper} {t : List V} {h : Heap} {K : Cont} :
    gdS E (selV y (.bool x)) w true op dst os t h K = (impB y (impB (wantB x w) (retH (doOp E.call E.fb op (ev t) h) h)) ∧ sxo E os (put t dst (selV y (selV (wantB x w) (valOf (doOp E.call E.fb op (ev t) h))))) h K) := by
  cases y
  · simp [gdS, selV, impB]
  · simp only [selV, gdS, impB, true_implies]
theorem gdS_seleff {E : Env} {x y w : Bool} {op : AOp} {dst : Option Nat} {os : List AOper} {t : List V} {h : Heap} {K : Cont} :
    gdS E (selV y (.bool x)) w false op dst os t h K = ((y = true → gdS E (.bool x) w false op dst os t h K) ∧ (y = false → sxo E os (put t dst (.tup [])) h K)) := by
  cases y
  · simp [gdS, selV]
  · simp [gdS, selV]
theorem sxK_def {E : Env} {dst : Option Nat} {os : List AOper} {t : List V} {K : Cont} {v : V} {h : Heap} : sxK E dst os t K v h = sxo E os (put t dst v) h K := rfl
theorem wantB_true {x : Bool} : wantB x true = x := rfl
theorem wantB_false {x : Bool} : wantB x false = !x := rfl
theorem selV_true {v : V} : selV true v = v := rfl
theorem selV_false {v : V} : selV false v = .tup [] := rfl
theorem selV_and {x y : Bool} {v : V} : selV (x && y) v = selV x (selV y v) := by cases x <;> cases y <;> rfl
theorem impB_true {P : Prop} : impB true P = P := by simp [impB]
theorem impB_false {P : Prop} : impB false P = True := by simp [impB]
theorem impB_and {x y : Bool} {P : Prop} : impB (x && y) P = impB x (impB y P) := by cases x <;> cases y <;> simp [impB]
theorem impB_triv {x : Bool} : impB x True = True := by simp [impB]
theorem selV_congr {x : Bool} {v v' : V} (hv : x = true → v = v') : selV x v = selV x v' := by
  cases x with
  | true => exact hv rfl
  | false => rfl
theorem impB_congr {x : Bool} {P P' : Prop} (hv : x = true → P = P') : impB x P = impB x P' := by
  cases x with
  | true => simp only [impB, hv rfl]
  | false => simp [impB]
theorem selV_wt {x : Bool} {v : V} : selV (wantB x true) v = selV x v := rfl
theorem selV_wf {x : Bool} {v : V} : selV (wantB x false) v = selV (!x) v := rfl
theorem selV_nor {x y : Bool} {v : V} : selV (!(x || y)) v = selV (!x) (selV (!y) v) := by cases x <;> cases y <;> rfl
theorem impB_wt {x : Bool} {v : Prop} : impB (wantB x true) v = impB x v := rfl
theorem impB_wf {x : Bool} {v : Prop} : impB (wantB x false) v = impB (!x) v := rfl
theorem impB_nor {x y : Bool} {v : Prop} : impB (!(x || y)) v = impB (!x) (impB (!y) v) := by cases x <;> cases y <;> simp [impB]
theorem selV_nt {v : V} : selV (!true) v = .tup [] := rfl
theorem selV_nf {v : V} : selV (!false) v = v := rfl
theorem impB_nt {v : Prop} : impB (!true) v = True := by simp [impB]
theorem impB_nf {v : Prop} : impB (!false) v = v := by simp [impB]
theorem valOf_some {v : V} {h : Heap} : valOf (some (v, h)) = v := rfl
theorem retH_some {v : V} {h h' : Heap} : retH (some (v, h')) h = (h' = h) := rfl
def pickO (c a b : V) : Option Eff := match c with | .bool x => some (.ret (match x with | true => a | false => b)) | _ => none
def pickAnd (x : Bool) (e : Option Eff) : Option Eff := match x with | true => e | false => some (.ret (.bool false))
def pickOr (x : Bool) (e : Option Eff) : Option Eff := match x with | true => some (.ret (.bool true)) | false => e
theorem prim_pick {fb : Nat} {ρ : Opd → V} {get : Nat → Option Ob} {c a b : Opd} : prim fb ρ get (.pick c a b) = pickO (ρ c) (ρ a) (ρ b) := rfl
theorem pickO_true {a b : V} : pickO (.bool true) a b = some (.ret a) := rfl
theorem pickO_false {a b : V} : pickO (.bool false) a b = some (.ret b) := rfl
theorem pickO_and {x y : Bool} : pickO (.bool x) (selV x (.bool y)) (.bool false) = some (.ret (.bool (x && y))) := by cases x <;> rfl
theorem pickO_or {x y : Bool} : pickO (.bool x) (.bool true) (selV (!x) (.bool y)) = some (.ret (.bool (x || y))) := by cases x <;> rfl
theorem pickO_orn {x y : Bool} : pickO (.bool (!x)) (.bool true) (selV x (.bool y)) = some (.ret (.bool (!x || y))) := by cases x <;> rfl
theorem pickO_bb {x y z : Bool} : pickO (.bool x) (.bool y) (.bool z) = some (.ret (.bool (bif x then y else z))) := by cases x <;> rfl
theorem pickO_andr {x r : Bool} {w : V} : pickO (.bool (x && r)) (selV x w) (.bool false) = pickAnd x (pickO (.bool r) w (.bool false)) := by cases x <;> rfl
theorem pickO_orr {x r : Bool} {w : V} : pickO (.bool (x || r)) (.bool true) (selV (!x) w) = pickOr x (pickO (.bool r) (.bool true) w) := by cases x <;> rfl
theorem pickO_orrn {x r : Bool} {w : V} : pickO (.bool (!x || r)) (.bool true) (selV x w) = pickOr (!x) (pickO (.bool r) (.bool true) w) := by cases x <;> rfl
theorem pickAnd_bool {x y : Bool} : pickAnd x (some (.ret (.bool y))) = some (.ret (.bool (x && y))) := by cases x <;> rfl
theorem pickOr_bool {x y : Bool} : pickOr x (some (.ret (.bool y))) = some (.ret (.bool (x || y))) := by cases x <;> rfl
theorem selV_nn {x : Bool} {v : V} : selV (!!x) v = selV x v := by cases x <;> rfl
theorem impB_nn {x : Bool} {v : Prop} : impB (!!x) v = impB x v := by cases x <;> simp [impB]
end Go.Am


set_option linter.unusedVariables false
set_option linter.unusedSimpArgs false
namespace Go.Am
theorem freeL_cons (v : V) (l : List V) : V.freeL (v :: l) = (v.free && V.freeL l) := by rfl
theorem freeL_nil : V.freeL [] = true := by rfl
theorem free_int (k : IntKind) (n : Int) : (V.int k n).free = true := rfl
theorem free_bool (n : Bool) : (V.bool n).free = true := rfl
theorem free_str (n : List UInt8) : (V.str n).free = true := rfl
theorem free_nils : V.nils.free = true := rfl
theorem free_agg (l : List V) : (V.agg l).free = V.freeL l := rfl
theorem free_tup (l : List V) : (V.tup l).free = V.freeL l := rfl
theorem free_sl (l : List V) (s : Nat) (c : Option Nat) : (V.sl l s c).free = V.freeL l := rfl
theorem freeL_append (a b : List V) : V.freeL (a ++ b) = (V.freeL a && V.freeL b) := by
  induction a with
  | nil => simp [freeL_nil]
  | cons x a ih => simp [freeL_cons, ih, Bool.and_assoc]
theorem shut_plain {get : Nat → Option Ob} {d : Nat} {v : V} (h : v.free = true) : V.shut get (d + 1) v = some v := by
  simp [V.shut, h]
theorem shut_int {get : Nat → Option Ob} {d : Nat} {k : IntKind} {n : Int} : V.shut get (d + 1) (.int k n) = some (.int k n) := shut_plain rfl
theorem shut_bool {get : Nat → Option Ob} {d : Nat} {b : Bool} : V.shut get (d + 1) (.bool b) = some (.bool b) := shut_plain rfl
theorem opt_bind_some {α β : Type} (a : α) (f : α → Option β) : Option.bind (some a) f = f a := rfl
theorem opt_bind_none {α β : Type} (f : α → Option β) : Option.bind none f = none := rfl
theorem opt_map_some {α β : Type} (a : α) (f : α → β) : Option.map f (some a) = some (f a) := rfl
theorem opt_map_none {α β : Type} (f : α → β) : Option.map f none = none := rfl
theorem wrap64_eq (n : Int) : IntKind.i64.wrap n = if n % 18446744073709551616 ≥ 9223372036854775808 then n % 18446744073709551616 - 18446744073709551616 else n % 18446744073709551616 := by
  unfold IntKind.wrap
  simp [IntKind.bits, IntKind.signed]
theorem wrap64 {n : Int} (h1 : -9223372036854775808 ≤ n) (h2 : n ≤ 9223372036854775807) : IntKind.i64.wrap n = n := by
  rw [wrap64_eq]
  split <;> omega
def sxL (E : Env) : Nat → ACode → List V → Heap → Post → Prop
  | 0, _, _, _, _ => False
  | m + 1, b, t, h, Q => sx E b t h fun e t h => match e with | .norm => sxL E m b t h Q | e => Q e t h
def lpQ (E : Env) (m : Nat) (b : ACode) (Q : Post) : Post := fun e t h => match e with | .norm => sxL E m b t h Q | e => Q e t h
theorem sxL_succ {E : Env} {m : Nat} {b : ACode} {t : List V} {h : Heap} {Q : Post} : sxL E (m + 1) b t h Q = sx E b t h (lpQ E m b Q) := rfl
theorem lpQ_norm {E : Env} {m : Nat} {b : ACode} {Q : Post} {t : List V} {h : Heap} : lpQ E m b Q .norm t h = sxL E m b t h Q := rfl
theorem lpQ_exit {E : Env} {m i : Nat} {b : ACode} {Q : Post} {t : List V} {h : Heap} : lpQ E m b Q (.exit i) t h = Q (.exit i) t h := rfl
theorem lpQ_ret {E : Env} {m : Nat} {b : ACode} {Q : Post} {t : List V} {h : Heap} : lpQ E m b Q .ret t h = Q .ret t h := rfl
theorem sx_unroll {E : Env} (m : Nat) {b : ACode} {t : List V} {h : Heap} {Q : Post} (hm : m ≤ E.N) (H : sxL E m b t h Q) : sx E (.loop [] [] b) t h Q := by
  show wp E (.loop [] [] b) t h Q
  unfold wp
  simp only [exec]
  have key : ∀ (m n : Nat) (t : List V) (h : Heap), m ≤ n → sxL E m b t h Q →
      match loopN (exec E.pureF E.call E.N E.fb b) (fun t h => (clear [] t, killA E.fb [] h)) n t h with | some (e, t', h') => Q e t' h' | none => False := by
    intro m
    induction m with
    | zero => intro n t h _ H; exact H.elim
    | succ m ih =>
      intro n t h hmn H
      obtain ⟨n, rfl⟩ : ∃ k, n = k + 1 := ⟨n - 1, by omega⟩
      have H' := sx_wp H
      unfold wp at H'
      simp only [loopN, clear, killA, List.foldl]
      cases he : exec E.pureF E.call E.N E.fb b t h with
      | none => rw [he] at H'; exact H'
      | some r =>
        obtain ⟨e, t', h'⟩ := r
        rw [he] at H'
        cases e with
        | norm => exact ih n t' h' (by omega) H'
        | _ => exact H'
  exact key m E.N t h hm H
theorem sx_loop {E : Env} {b : ACode} {t : List V} {h : Heap} {Q : Post} (I : Nat → List V → Heap → Prop) (k : Nat) (hk : k < E.N) (h0 : I 0 t h)
    (hs : ∀ i t h, i ≤ k → I i t h → sx E b t h (loopQ i k I Q)) : sx E (.loop [] [] b) t h Q :=
  wp_loop I k hk h0 fun i t h hi hI => sx_wp (hs i t h hi hI)
end Go.Am


set_option linter.unusedVariables false
set_option linter.unusedSimpArgs false
namespace Go.Am
def Sub (c c' : Caller) : Prop := ∀ f args h r, c f args h = some r → c' f args h = some r
theorem doOp_mono {c c' : Caller} (hc : Sub c c') {fb : Nat} {op : AOp} {ρ : Opd → V} {h : Heap} {r : V × Heap} (H : doOp c fb op ρ h = some r) : doOp c' fb op ρ h = some r := by
  unfold doOp at *
  split at H
  · split at H
    · cases H
    · rename_i hny
      simp only [if_neg hny]
      exact hc _ _ _ _ H
  · split at H
    · split at H
      · cases H
      · rename_i hny
        simp only [if_neg hny]
        exact hc _ _ _ _ H
    · exact hc _ _ _ _ H
    · cases H
  · exact H
theorem stepOp_mono {c c' : Caller} (hc : Sub c c') {fb : Nat} {o : AOper} {t : List V} {h : Heap} {r : List V × Heap} (H : stepOp c fb o t h = some r) : stepOp c' fb o t h = some r := by
  unfold stepOp at *
  split at H
  · cases H
  · exact H
  · split at H
    · rename_i v h' hd
      rw [doOp_mono hc hd]
      exact H
    · cases H
theorem runOps_mono {c c' : Caller} (hc : Sub c c') {fb : Nat} : ∀ {ops : List AOper} {t : List V} {h : Heap} {r : List V × Heap}, runOps c fb ops t h = some r → runOps c' fb ops t h = some r
  | [], t, h, r, H => H
  | o :: os, t, h, r, H => by
    simp only [runOps] at *
    split at H
    · rename_i t' h' hs
      rw [stepOp_mono hc hs]
      exact runOps_mono hc H
    · cases H
theorem runDraw_mono {pureF : FuncId → FMode} {c c' : Caller} (hc : Sub c c') {fb n : Nat} : ∀ {ops : List (AOper × List Nat)} {fps : List FpT} {t : List V} {h : Heap} {r : List V × Heap},
    runDraw pureF c fb n ops fps t h = some r → runDraw pureF c' fb n ops fps t h = some r
  | [], fps, t, h, r, H => H
  | (o, ps) :: os, fps, t, h, r, H => by
    simp only [runDraw] at *
    split at H
    · rename_i hp
      rw [if_pos hp]
      split at H
      · rename_i t' h' hs
        rw [stepOp_mono hc hs]
        exact runDraw_mono hc H
      · cases H
    · cases H
theorem frameC_mono {pureF : FuncId → FMode} {c c' : Caller} (hc : Sub c c') : Sub (frameC pureF c) (frameC pureF c') := by
  intro f args h r H
  unfold frameC at *
  by_cases hny : f = YLD
  · rw [if_pos hny] at H ⊢
    split at H
    · rename_i v k e
      rw [hc _ _ _ _ e]
      exact H
    · cases H
  rw [if_neg hny] at H ⊢
  split at H
  · exact hc _ _ _ _ H
  · split at H
    · rename_i hp; rw [if_pos hp]; exact hc _ _ _ _ H
    · cases H
  · split at H
    · rename_i v h1 e1 e2
      rw [e1, hc _ _ _ _ e2]
      exact H
    · cases H
theorem loopN_mono {f f' : List V → Heap → Option (Ex × List V × Heap)} (hf : ∀ t h r, f t h = some r → f' t h = some r) {pre : List V → Heap → List V × Heap} : ∀ {n n' : Nat} {t : List V} {h : Heap} {r : Ex × List V × Heap}, n ≤ n' →
    loopN f pre n t h = some r → loopN f' pre n' t h = some r
  | 0, n', t, h, r, hn, H => by simp [loopN] at H
  | n + 1, n', t, h, r, hn, H => by
    obtain ⟨m, rfl⟩ : ∃ m, n' = m + 1 := ⟨n' - 1, by omega⟩
    simp only [loopN] at *
    split at H
    · rename_i t' h' hs
      rw [hf _ _ _ hs]
      exact loopN_mono hf (by omega) H
    · rename_i hne
      rw [hf _ _ _ H]
      obtain ⟨e, t', h'⟩ := r
      cases e with
      | norm => exact absurd H (hne _ _)
      | _ => rfl
theorem exec_mono {pureF : FuncId → FMode} {c c' : Caller} (hc : Sub c c') {N N' : Nat} (hN : N ≤ N') {fb : Nat} : ∀ {code : ACode} {t : List V} {h : Heap} {r : Ex × List V × Heap}, exec pureF c N fb code t h = some r → exec pureF c' N' fb code t h = some r
  | .skip, t, h, r, H => H
  | .region ops, t, h, r, H => by
    simp only [exec] at *
    split at H
    · rename_i hs; rw [runOps_mono hc hs]; exact H
    · cases H
  | .draw ops, t, h, r, H => by
    simp only [exec] at *
    split at H
    · rename_i hs; rw [runDraw_mono (frameC_mono hc) hs]; exact H
    · cases H
  | .seq a b, t, h, r, H => by
    simp only [exec] at *
    split at H
    · rename_i hs; rw [exec_mono hc hN hs]; exact exec_mono hc hN H
    · rename_i hne
      rw [exec_mono hc hN H]
      obtain ⟨e, t', h'⟩ := r
      cases e with
      | norm => exact absurd H (hne _ _)
      | _ => rfl
  | .cond cd a b, t, h, r, H => by
    simp only [exec] at *
    split at H
    · exact exec_mono hc hN H
    · exact exec_mono hc hN H
    · cases H
  | .block id b, t, h, r, H => by
    simp only [exec] at *
    split at H
    · rename_i hs; rw [exec_mono hc hN hs]; exact H
    · rename_i hne
      rw [exec_mono hc hN H]
      obtain ⟨e, t', h'⟩ := r
      cases e with
      | exit i => exact absurd H (hne _ _ _)
      | _ => rfl
  | .loop clr kill b, t, h, r, H => by
    simp only [exec] at *
    exact loopN_mono (fun t h r => exec_mono hc hN) hN H
  | .exit id, t, h, r, H => H
  | .ret, t, h, r, H => H
  | .clr l, t, h, r, H => H
  | .fresh n b, t, h, r, H => by
    simp only [exec] at *
    exact exec_mono hc hN H
  | .rangeF f ps a b fid k site, t, h, r, H => by
    simp only [exec] at *
    split at H
    · split at H
      · rename_i hx _ _ _ _ he
        split at H
        · cases H
        · rename_i hny
          simp only [he, if_neg hny]
          split at H
          · rename_i e
            rw [hc _ _ _ _ e]
            exact H
          · cases H
      · cases H
    · cases H
theorem yieldA_mono {p : AProg} {c c' : Caller} (hc : Sub c c') {N N' : Nat} (hN : N ≤ N') {args : List V} {h : Heap} {r : V × Heap} (H : yieldA p c N args h = some r) : yieldA p c' N' args h = some r := by
  unfold yieldA at *
  split at H
  case h_2 => cases H
  split at H
  case h_2 => cases H
  split at H
  case isFalse => cases H
  rename_i hv
  try rw [if_pos hv]
  split at H
  case h_2 => cases H
  rename_i hp
  split at H
  case h_2 => cases H
  rename_i hr
  try rw [hr]
  split at H
  case isFalse => cases H
  rename_i hl
  try rw [if_pos hl]
  split at H
  case h_2 => cases H
  rename_i he
  rw [exec_mono hc hN he]
  split at H
  case h_2 => cases H
  rename_i ho
  split at H
  case isFalse => cases H
  rename_i hv2
  simp only [ho, hv2, ↓reduceIte] at H ⊢
  split at H
  case h_2 => cases H
  rename_i he2
  rw [exec_mono hc hN he2]
  exact H
theorem bodyA_mono {p : AProg} {c c' : Caller} (hc : Sub c c') {N N' : Nat} (hN : N ≤ N') {fb : Nat} {fn : AFunc} {args : List V} {h : Heap} {r : V × Heap} (H : bodyA p c N fb fn args h = some r) : bodyA p c' N' fb fn args h = some r := by
  unfold bodyA at *
  split at H
  · rename_i he; rw [exec_mono hc hN he]; exact H
  · rename_i he; rw [exec_mono hc hN he]; exact H
  · cases H
theorem callA_mono (p : AProg) : ∀ {n n' : Nat} {N N' : Nat}, n ≤ n' → N ≤ N' → Sub (callA p N n) (callA p N' n')
  | 0, n', N, N', hn, hN => by intro f args h r H; simp [callA] at H
  | n + 1, n', N, N', hn, hN => by
    obtain ⟨m, rfl⟩ : ∃ m, n' = m + 1 := ⟨n' - 1, by omega⟩
    have ih : Sub (callA p N n) (callA p N' m) := callA_mono p (by omega) hN
    intro f args h r H
    unfold callA at *
    by_cases hny : f = YLD
    · rw [if_pos hny] at H ⊢
      exact yieldA_mono ih hN H
    rw [if_neg hny] at H ⊢
    cases hf : p[f]? with
    | none => simp [hf] at H
    | some o =>
      cases o with
      | none => simp [hf] at H
      | some fn =>
        simp only [hf] at H ⊢
        by_cases hl : args.length = fn.nargs
        · rw [if_pos hl] at H ⊢
          cases hm : fn.mode with
          | keep => simp only [hm] at H ⊢; exact bodyA_mono ih hN H
          | auto =>
            simp only [hm] at H ⊢
            by_cases hfr : V.freeL args = true
            · rw [if_pos hfr] at H ⊢
              cases hb : bodyA p (callA p N n) N 0 fn args (deads fn.sites) with
              | none => simp [hb] at H
              | some x => rw [hb] at H; rw [bodyA_mono ih hN hb]; exact H
            · rw [if_neg hfr] at H ⊢
              exact bodyA_mono ih hN H
          | pure =>
            simp only [hm] at H ⊢
            by_cases hfr : V.freeL args = true
            · rw [if_pos hfr] at H ⊢
              cases hb : bodyA p (callA p N n) N 0 fn args (deads fn.sites) with
              | none => simp [hb] at H
              | some x => rw [hb] at H; rw [bodyA_mono ih hN hb]; exact H
            · rw [if_neg hfr] at H
              cases H
          | look =>
            simp only [hm] at H ⊢
            cases ha : args.mapM (V.shut (fun o => h[o]?) sealDepth) with
            | none => simp [ha] at H
            | some args' =>
              simp only [ha] at H ⊢
              cases hb : bodyA p (callA p N n) N 0 fn args' (deads fn.sites) with
              | none => simp [hb] at H
              | some x => rw [hb] at H; rw [bodyA_mono ih hN hb]; exact H
        · rw [if_neg hl] at H
          cases H
theorem callA_heap {p : AProg} {N n : Nat} {f : FuncId} {args : List V} {h h' : Heap} {v : V} (hm : pureOf p f = .pure) (H : callA p N n f args h' = some (v, h')) (hy : f ≠ YLD := by decide) : callA p N n f args h = some (v, h) := by
  cases n with
  | zero => simp [callA] at H
  | succ n =>
    unfold callA at *
    rw [if_neg hy] at H ⊢
    unfold pureOf at hm
    cases hf : p[f]? with
    | none => simp [hf] at H
    | some o =>
      cases o with
      | none => simp [hf] at H
      | some fn =>
        simp only [hf] at H hm ⊢
        by_cases hl : args.length = fn.nargs
        · rw [if_pos hl] at H ⊢
          simp only [hm] at H ⊢
          by_cases hfr : V.freeL args = true
          · rw [if_pos hfr] at H ⊢
            cases hb : bodyA p (callA p N n) N 0 fn args (deads fn.sites) with
            | none => simp [hb] at H
            | some x =>
              obtain ⟨y, k⟩ := x
              simp only [hb] at H ⊢
              cases hs : V.shut (fun o => k[o]?) sealDepth y with
              | none => simp [hs] at H
              | some z =>
                simp only [hs, Option.some.injEq, Prod.mk.injEq] at H ⊢
                exact ⟨H.1, trivial⟩
          · rw [if_neg hfr] at H
            cases H
        · rw [if_neg hl] at H
          cases H
theorem closed_call {p : AProg} {N0 n0 : Nat} {f : FuncId} {args : List V} {v : V} (hm : pureOf p f = .pure) (H : callA p N0 n0 f args [] = some (v, [])) {N n : Nat} (hN : N0 ≤ N) (hn : n0 ≤ n) (h : Heap) (hy : f ≠ YLD := by decide) : callA p N n f args h = some (v, h) :=
  callA_mono p hn hN f args h (v, h) (callA_heap (h := h) (h' := []) hm H hy)
theorem call_look {p : AProg} {N n : Nat} {f : FuncId} {fn : AFunc} {args args' : List V} {h : Heap} {v : V} (hf : p[f]? = some (some fn)) (hm : fn.mode = .look) (ha : args.length = fn.nargs) (hl : fn.nargs ≤ fn.nt)
    (hs : args.mapM (V.shut (fun o => h[o]?) sealDepth) = some args')
    (H : wp ⟨pureOf p, callA p N n, N, 0⟩ fn.body (fr fn.nt (argsF 0 args')) (deads fn.sites) (retQ fn.res fun x h' => x = v ∧ v.plain = true)) (hy : f ≠ YLD := by decide) :
    callA p N (n + 1) f args h = some (v, h) := by
  have hl' : args'.length = args.length := (mapM_get hs).1
  obtain ⟨x, h', hb, hx, hp⟩ := body_of_wp (by omega) H
  subst hx
  unfold callA
  rw [if_neg hy]
  simp only [hf, ha, ↓reduceIte, hm, hs, hb, hp]
theorem plain_bool (b : Bool) : (V.bool b).plain = true := rfl
theorem plain_int (k : IntKind) (b : Int) : (V.int k b).plain = true := rfl
end Go.Am


set_option linter.unusedVariables false
set_option linter.unusedSimpArgs false
namespace Go.Am
structure IsL (l : V) (s : Nat) (cs : List (List V)) : Prop where
  free : l.free = true
  len : lenA l = some cs.length
  nstr : ∀ b, l ≠ .str b
  at_ : ∀ i : Nat, iaddrSA s l (.int .i64 i) = match cs[i]? with | some c => some (.ret (.iptr c 0)) | none => none
  first : ∀ get n, n ≤ cs.length → firstA get s n l = some (cs.take n).flatten
theorem isL_nils (s : Nat) : IsL .nils s [] := ⟨rfl, rfl, by simp, fun i => rfl, fun get n hn => by simp at hn; subst hn; rfl⟩
theorem isL_sl {L : List V} {s : Nat} {c : Option Nat} {cs : List (List V)} (hf : V.freeL L = true) (hc : L.map V.cells = cs) : IsL (.sl L s c) s cs := by
  subst hc
  refine ⟨hf, by simp [lenA], by simp, fun i => ?_, fun get n hn => ?_⟩
  · simp only [iaddrSA, ↓reduceIte, indexedI, Int.natCast_nonneg, Int.ofNat_lt, Int.toNat_natCast, List.getElem?_map]
    by_cases h : i < L.length
    · simp [h]
    · simp [h]
  · simp only [List.length_map] at hn
    simp only [firstA, ↓reduceIte, if_pos hn]
    congr 1
    rw [← List.map_take, List.flatMap_def]
theorem lenA_view {o v f n s : Nat} {c : Option Nat} : lenA (.view o v f n s c) = some n := rfl
theorem lenA_nils : lenA .nils = some 0 := rfl
theorem call_keep {p : AProg} {N n : Nat} {f : FuncId} {fn : AFunc} {args : List V} {h : Heap} {C : V → Heap → Prop} (hf : p[f]? = some (some fn)) (hm : fn.mode = .keep) (ha : args.length = fn.nargs) (hl : fn.nargs ≤ fn.nt)
    (H : wp ⟨pureOf p, callA p N n, N, h.length⟩ fn.body (fr fn.nt (argsF 0 args)) (h ++ deads fn.sites) (retQ fn.res C)) (hy : f ≠ YLD := by decide) : ∃ v h', callA p N (n + 1) f args h = some (v, h') ∧ C v h' := by
  obtain ⟨v, h', hb, hc⟩ := body_of_wp (by omega) H
  refine ⟨v, h', ?_, hc⟩
  unfold callA
  rw [if_neg hy]
  simp only [hf, ha, ↓reduceIte, hm, hb]
theorem call_keep_eq {p : AProg} {N n : Nat} {f : FuncId} {fn : AFunc} {args : List V} {h h' : Heap} {v : V} (hf : p[f]? = some (some fn)) (hm : fn.mode = .keep) (ha : args.length = fn.nargs) (hl : fn.nargs ≤ fn.nt)
    (H : wp ⟨pureOf p, callA p N n, N, h.length⟩ fn.body (fr fn.nt (argsF 0 args)) (h ++ deads fn.sites) (retQ fn.res fun x k => x = v ∧ k = h')) (hy : f ≠ YLD := by decide) : callA p N (n + 1) f args h = some (v, h') := by
  obtain ⟨x, k, h1, rfl, rfl⟩ := call_keep hf hm ha hl H hy
  exact h1
theorem app_get0 {h : Heap} {l : List Ob} : (h ++ l)[h.length]? = l[0]? := by rw [List.getElem?_append_right (Nat.le_refl _), Nat.sub_self]
theorem app_get {h : Heap} {l : List Ob} {k : Nat} : (h ++ l)[h.length + k]? = l[k]? := by rw [List.getElem?_append_right (by omega), Nat.add_sub_cancel_left]
theorem app_set0 {h : Heap} {l : List Ob} {x : Ob} : (h ++ l).set h.length x = h ++ l.set 0 x := by rw [List.set_append_right _ _ (Nat.le_refl _), Nat.sub_self]
theorem app_set {h : Heap} {l : List Ob} {k : Nat} {x : Ob} : (h ++ l).set (h.length + k) x = h ++ l.set k x := by rw [List.set_append_right _ _ (by omega), Nat.add_sub_cancel_left]
theorem sr_nil {cs : List V} : setRange cs 0 [] = cs := by simp [setRange]
theorem sr_cons {a b : V} {cs bs : List V} : setRange (a :: cs) 0 (b :: bs) = b :: setRange cs 0 bs := by
  simp [setRange]
theorem sr_succ {a : V} {cs bs : List V} {n : Nat} : setRange (a :: cs) (n + 1) bs = a :: setRange cs n bs := by
  simp only [setRange, List.take_succ_cons, List.cons_append, List.cons.injEq, true_and]
  rw [show n + 1 + bs.length = (n + bs.length) + 1 by omega, List.drop_succ_cons]
theorem sr_all {cs bs : List V} (h : bs.length = cs.length) : setRange cs 0 bs = bs := by
  simp [setRange, ← h]
theorem sr_len {cs bs : List V} {n : Nat} (h : n + bs.length ≤ cs.length) : (setRange cs n bs).length = cs.length := setRange_length _ _ _ h
def cvP (E : Env) (f : V) (args : List V) (h : Heap) (C : V → Heap → Prop) : Prop :=
  match f with
  | .func g xs ys => if g = YLD then False else wcall (E.call g (xs ++ args ++ ys) h) C
  | .yld o ver => wcall (E.call YLD (.yld o ver :: args) h) C
  | _ => False
theorem wop_cv {E : Env} {f : Opd} {args : List Opd} {t : List V} {h : Heap} {C : V → Heap → Prop} : wop E (.callv f args) t h C = cvP E (ev t f) (args.map (ev t)) h C := by
  unfold wop cvP
  simp only [doOp]
  cases ev t f <;> try rfl
  simp only
  split <;> rfl
theorem cvP_func {E : Env} {g : FuncId} {xs ys args : List V} {h : Heap} {C : V → Heap → Prop} (hy : g ≠ 1000000007) : cvP E (.func g xs ys) args h C = wcall (E.call g (xs ++ args ++ ys) h) C := by
  have hy' : ¬ g = YLD := hy
  simp only [cvP, if_neg hy']
theorem freeL_of_mem : ∀ {l : List V}, (∀ c ∈ l, c.free = true) → V.freeL l = true
  | [], _ => rfl
  | c :: l, h => by rw [freeL_cons, h c (by simp), freeL_of_mem (fun d hd => h d (by simp [hd]))]; rfl
theorem freeL_mem : ∀ {l : List V}, V.freeL l = true → ∀ c ∈ l, c.free = true
  | [], _, c, hc => by cases hc
  | d :: l, h, c, hc => by
    simp only [freeL_cons, Bool.and_eq_true] at h
    rcases List.mem_cons.1 hc with rfl | hc
    · exact h.1
    · exact freeL_mem h.2 c hc
end Go.Am


set_option linter.unusedVariables false
namespace Go.Am.T
def am7 : AFunc := { nargs := 0, nt := 126, sites := 4, mode := .pure, body := .seq (.seq (.region [⟨some 0, .move (.cst (.bool false)), none⟩]) (.clr [0])) (.seq (.seq (.region [⟨some 14, .call 15 [.cst (.int .i64 4096), .cst (.int .i64 8)], none⟩, ⟨some 13, .move (.tmp 14), none⟩, ⟨some 15, .extract (.tmp 13) 0, none⟩, ⟨some 16, .extract (.tmp 13) 1, none⟩, ⟨some 1, .move (.tmp 15), none⟩, ⟨some 2, .move (.tmp 16), none⟩]) (.clr [16, 15, 14, 13])) (.seq (.seq (.region [⟨some 18, .mkslice 0 [.int .u8 0] 1 1 (.cst (.int .i64 64)) (.cst (.int .i64 64)), none⟩, ⟨some 19, .bslice [.int .i64 0] 1 1 [(0, 1, .cst (.int .i64 2147483647))], none⟩, ⟨some 20, .call 9 [.tmp 18, .tmp 19], none⟩, ⟨some 17, .move (.tmp 20), none⟩, ⟨some 21, .extract (.tmp 17) 0, none⟩, ⟨some 22, .extract (.tmp 17) 1, none⟩, ⟨some 3, .move (.tmp 21), none⟩, ⟨some 4, .move (.tmp 22), none⟩]) (.clr [22, 21, 20, 19, 18, 17])) (.seq (.seq (.region [⟨some 24, .move (.tmp 3), none⟩, ⟨some 25, .call 27 [.tmp 24, .cst (.int .i64 0)], none⟩, ⟨some 23, .move (.tmp 25), none⟩, ⟨some 26, .extract (.tmp 23) 0, none⟩, ⟨some 27, .extract (.tmp 23) 1, none⟩, ⟨some 5, .move (.tmp 26), none⟩, ⟨some 6, .move (.tmp 27), none⟩]) (.clr [27, 26, 25, 24, 23, 5])) (.seq (.seq (.region [⟨some 29, .mkslice 1 [.int .u8 0] 1 1 (.cst (.int .i64 64)) (.cst (.int .i64 64)), none⟩, ⟨some 30, .bslice [.int .i64 0] 1 1 [(0, 1, .cst (.int .i64 2147483648))], none⟩, ⟨some 31, .call 9 [.tmp 29, .tmp 30], none⟩, ⟨some 28, .move (.tmp 31), none⟩, ⟨some 32, .extract (.tmp 28) 0, none⟩, ⟨some 33, .extract (.tmp 28) 1, none⟩, ⟨some 7, .move (.tmp 32), none⟩, ⟨some 8, .move (.tmp 33), none⟩]) (.clr [33, 32, 31, 30, 29, 28, 7])) (.seq (.seq (.region [⟨some 35, .mkslice 2 [.int .u8 0] 1 1 (.cst (.int .i64 64)) (.cst (.int .i64 64)), none⟩, ⟨some 36, .call 9 [.tmp 35, .cst .nils], none⟩, ⟨some 34, .move (.tmp 36), none⟩, ⟨some 37, .extract (.tmp 34) 0, none⟩, ⟨some 38, .extract (.tmp 34) 1, none⟩, ⟨some 9, .move (.tmp 37), none⟩, ⟨some 10, .move (.tmp 38), none⟩]) (.clr [38, 37, 36, 35, 34, 9])) (.seq (.seq (.region [⟨some 39, .move (.tmp 3), none⟩, ⟨some 40, .call 24 [.tmp 39, .cst (.int .i64 0), .cst (.int .i64 2147483647), .cst (.int .i64 0), .cst (.int .i64 2147483647)], none⟩, ⟨some 41, .move (.tmp 3), none⟩, ⟨some 42, .call 24 [.tmp 41, .cst (.int .i64 0), .cst (.int .i64 2147483647), .cst (.int .i64 0), .cst (.int .i64 2147483646)], none⟩, ⟨some 11, .move (.tmp 40), none⟩, ⟨some 12, .move (.tmp 42), none⟩]) (.clr [42, 41, 40, 39, 3])) (.seq (.seq (.region [⟨some 43, .move (.tmp 1), none⟩, ⟨some 44, .eqnil true (NK.p) (.tmp 43), none⟩, ⟨some 45, .move (.tmp 44), none⟩, ⟨some 46, .move (.tmp 2), some (45, true)⟩, ⟨some 47, .call 11 [.tmp 46], some (45, true)⟩, ⟨some 48, .move (.tmp 4), some (45, true)⟩, ⟨some 49, .call 11 [.tmp 48], some (45, true)⟩, ⟨some 50, .bin .add (.tmp 47) (.tmp 49), some (45, true)⟩, ⟨some 51, .move (.tmp 12), some (45, true)⟩, ⟨some 52, .call 11 [.tmp 51], some (45, true)⟩, ⟨some 53, .bin .add (.tmp 50) (.tmp 52), some (45, true)⟩, ⟨some 54, .bin .eql (.tmp 53) (.cst (.int .i64 0)), some (45, true)⟩, ⟨some 55, .pick (.tmp 45) (.tmp 54) (.cst (.bool false)), none⟩, ⟨some 56, .move (.tmp 55), none⟩, ⟨some 57, .move (.tmp 6), some (56, true)⟩, ⟨some 58, .call 11 [.tmp 57], some (56, true)⟩, ⟨some 59, .bin .eql (.tmp 58) (.cst (.int .i64 5)), some (56, true)⟩, ⟨some 60, .pick (.tmp 56) (.tmp 59) (.cst (.bool false)), none⟩, ⟨some 61, .move (.tmp 60), none⟩, ⟨some 62, .move (.tmp 8), some (61, true)⟩, ⟨some 63, .call 11 [.tmp 62], some (61, true)⟩, ⟨some 64, .bin .eql (.tmp 63) (.cst (.int .i64 2)), some (61, true)⟩, ⟨some 65, .pick (.tmp 61) (.tmp 64) (.cst (.bool false)), none⟩, ⟨some 66, .move (.tmp 65), none⟩, ⟨some 67, .move (.tmp 10), some (66, true)⟩, ⟨some 68, .call 11 [.tmp 67], some (66, true)⟩, ⟨some 69, .bin .eql (.tmp 68) (.cst (.int .i64 2)), some (66, true)⟩, ⟨some 70, .pick (.tmp 66) (.tmp 69) (.cst (.bool false)), none⟩, ⟨some 71, .move (.tmp 70), none⟩, ⟨some 72, .move (.tmp 11), some (71, true)⟩, ⟨some 73, .call 11 [.tmp 72], some (71, true)⟩, ⟨some 74, .bin .eql (.tmp 73) (.cst (.int .i64 2)), some (71, true)⟩, ⟨some 75, .pick (.tmp 71) (.tmp 74) (.cst (.bool false)), none⟩, ⟨some 76, .move (.tmp 75), none⟩, ⟨some 77, .move (.tmp 1), some (76, true)⟩, ⟨some 78, .call 22 [.tmp 77, .cst (.int .i64 7), .cst (.int .i64 0), .cst (.int .i64 4096), .cst .nils], some (76, true)⟩, ⟨some 79, .call 11 [.tmp 78], some (76, true)⟩, ⟨some 80, .bin .eql (.tmp 79) (.cst (.int .i64 0)), some (76, true)⟩, ⟨some 81, .pick (.tmp 76) (.tmp 80) (.cst (.bool false)), none⟩, ⟨some 82, .move (.tmp 81), none⟩, ⟨some 83, .move (.tmp 1), some (82, true)⟩, ⟨some 84, .call 22 [.tmp 83, .cst (.int .i64 7), .cst (.int .i64 0), .cst (.int .i64 4097), .cst .nils], some (82, true)⟩, ⟨some 85, .call 11 [.tmp 84], some (82, true)⟩, ⟨some 86, .bin .eql (.tmp 85) (.cst (.int .i64 2)), some (82, true)⟩, ⟨some 87, .pick (.tmp 82) (.tmp 86) (.cst (.bool false)), none⟩, ⟨some 88, .move (.tmp 87), none⟩, ⟨some 89, .move (.tmp 1), some (88, true)⟩, ⟨some 90, .call 22 [.tmp 89, .cst (.int .i64 7), .cst (.int .i64 (-1)), .cst (.int .i64 0), .cst .nils], some (88, true)⟩, ⟨some 91, .call 11 [.tmp 90], some (88, true)⟩, ⟨some 92, .bin .eql (.tmp 91) (.cst (.int .i64 2)), some (88, true)⟩, ⟨some 93, .pick (.tmp 88) (.tmp 92) (.cst (.bool false)), none⟩, ⟨some 94, .move (.tmp 93), none⟩, ⟨some 95, .move (.tmp 1), some (94, true)⟩, ⟨some 96, .call 25 [.tmp 95, .cst (.int .i64 0)], some (94, true)⟩, ⟨some 97, .call 11 [.tmp 96], some (94, true)⟩, ⟨some 98, .bin .eql (.tmp 97) (.cst (.int .i64 0)), some (94, true)⟩, ⟨some 99, .pick (.tmp 94) (.tmp 98) (.cst (.bool false)), none⟩, ⟨some 100, .move (.tmp 99), none⟩, ⟨some 101, .move (.tmp 1), some (100, true)⟩, ⟨some 102, .call 25 [.tmp 101, .cst (.int .i64 0)], some (100, true)⟩, ⟨some 103, .call 11 [.tmp 102], some (100, true)⟩, ⟨some 104, .bin .eql (.tmp 103) (.cst (.int .i64 9)), some (100, true)⟩, ⟨some 105, .pick (.tmp 100) (.tmp 104) (.cst (.bool false)), none⟩, ⟨some 106, .move (.tmp 105), none⟩, ⟨some 107, .move (.tmp 1), some (106, true)⟩, ⟨some 108, .call 20 [.tmp 107], some (106, true)⟩, ⟨some 109, .pick (.tmp 106) (.tmp 108) (.cst (.bool false)), none⟩, ⟨some 110, .move (.tmp 109), none⟩, ⟨some 111, .call 28 [.cst .nilp], some (110, true)⟩, ⟨some 112, .pick (.tmp 110) (.tmp 111) (.cst (.bool false)), none⟩, ⟨some 113, .move (.tmp 112), none⟩, ⟨some 114, .build [.nils, .int .i64 0, .int .i64 0, .int .i64 0, .int .i64 0, .int .i64 0, .int .i64 0, .int .i64 0, .int .i64 0, .int .i64 0, .bool false, .int .i64 0, .bool false, .int .i64 0] [], some (113, true)⟩, ⟨some 115, .box 3 (.tmp 114), some (113, true)⟩, ⟨some 116, .call 28 [.tmp 115], some (113, true)⟩, ⟨some 117, .pick (.tmp 113) (.tmp 116) (.cst (.bool false)), none⟩, ⟨some 118, .move (.tmp 117), none⟩, ⟨some 119, .move (.tmp 1), some (118, true)⟩, ⟨some 120, .call 17 [.tmp 119, .cst .nilp], some (118, true)⟩, ⟨some 121, .un .not (.tmp 120), some (118, true)⟩, ⟨some 122, .pick (.tmp 118) (.tmp 121) (.cst (.bool false)), none⟩, ⟨some 123, .move (.tmp 122), none⟩, ⟨some 124, .call 8 [], some (123, true)⟩, ⟨some 125, .pick (.tmp 123) (.tmp 124) (.cst (.bool false)), none⟩, ⟨some 0, .move (.tmp 125), none⟩]) (.clr [125, 124, 123, 122, 121, 120, 119, 118, 117, 116, 115, 114, 113, 112, 111, 110, 109, 108, 107, 106, 105, 104, 103, 102, 101, 100, 99, 98, 97, 96, 95, 94, 93, 92, 91, 90, 89, 88, 87, 86, 85, 84, 83, 82, 81, 80, 79, 78, 77, 76, 75, 74, 73, 72, 71, 70, 69, 68, 67, 66, 65, 64, 63, 62, 61, 60, 59, 58, 57, 56, 55, 54, 53, 52, 51, 50, 49, 48, 47, 46, 45, 44, 43, 12, 11, 10, 8, 6, 4, 2, 1])) .ret))))))), res := [.tmp 0] }
def am8 : AFunc := { nargs := 0, nt := 283, sites := 5, mode := .pure, body := .seq (.seq (.region [⟨some 0, .move (.cst (.bool false)), none⟩]) (.clr [0])) (.seq (.seq (.region [⟨some 45, .call 23 [.cst (.int .u8 115)], none⟩, ⟨some 46, .call 23 [.cst (.int .u8 116)], none⟩, ⟨some 1, .allocz 0 [.int .u8 0, .int .u8 0, .int .u8 0, .int .u8 0, .int .u8 0, .int .u8 0, .int .u8 0, .int .u8 0, .int .u8 0, .int .u8 0, .int .u8 0, .int .u8 0, .int .u8 0, .int .u8 0, .int .u8 0, .int .u8 0, .int .u8 0, .int .u8 0, .int .u8 0, .int .u8 0, .int .u8 0, .int .u8 0, .int .u8 0, .int .u8 0, .int .u8 0, .int .u8 0, .int .u8 0, .int .u8 0, .int .u8 0, .int .u8 0, .int .u8 0, .int .u8 0, .int .u8 0, .int .u8 0, .int .u8 0, .int .u8 0, .int .u8 0, .int .u8 0, .int .u8 0, .int .u8 0, .int .u8 0, .int .u8 0, .int .u8 0, .int .u8 0, .int .u8 0, .int .u8 0, .int .u8 0, .int .u8 0, .int .u8 0, .int .u8 0, .int .u8 0, .int .u8 0, .int .u8 0, .int .u8 0, .int .u8 0, .int .u8 0, .int .u8 0, .int .u8 0, .int .u8 0, .int .u8 0, .int .u8 0, .int .u8 0, .int .u8 0, .int .u8 0], none⟩, ⟨some 2, .allocz 1 [.int .u8 0, .int .u8 0, .int .u8 0, .int .u8 0, .int .u8 0, .int .u8 0, .int .u8 0, .int .u8 0, .int .u8 0, .int .u8 0, .int .u8 0, .int .u8 0, .int .u8 0, .int .u8 0, .int .u8 0, .int .u8 0, .int .u8 0, .int .u8 0, .int .u8 0, .int .u8 0, .int .u8 0, .int .u8 0, .int .u8 0, .int .u8 0, .int .u8 0, .int .u8 0, .int .u8 0, .int .u8 0, .int .u8 0, .int .u8 0, .int .u8 0, .int .u8 0, .int .u8 0, .int .u8 0, .int .u8 0, .int .u8 0, .int .u8 0, .int .u8 0, .int .u8 0, .int .u8 0, .int .u8 0, .int .u8 0, .int .u8 0, .int .u8 0, .int .u8 0, .int .u8 0, .int .u8 0, .int .u8 0, .int .u8 0, .int .u8 0, .int .u8 0, .int .u8 0, .int .u8 0, .int .u8 0, .int .u8 0, .int .u8 0, .int .u8 0, .int .u8 0, .int .u8 0, .int .u8 0, .int .u8 0, .int .u8 0, .int .u8 0, .int .u8 0], none⟩, ⟨none, .store 64 (.tmp 1) (.tmp 45), none⟩, ⟨none, .store 64 (.tmp 2) (.tmp 46), none⟩]) (.clr [46, 45])) (.seq (.seq (.region [⟨some 48, .call 15 [.cst (.int .i64 0), .cst (.int .i64 1)], none⟩, ⟨some 47, .move (.tmp 48), none⟩, ⟨some 49, .extract (.tmp 47) 0, none⟩, ⟨some 50, .extract (.tmp 47) 1, none⟩, ⟨some 3, .move (.tmp 49), none⟩, ⟨some 4, .move (.tmp 50), none⟩]) (.clr [50, 49, 48, 47, 3])) (.seq (.seq (.region [⟨some 52, .call 15 [.cst (.int .i64 4097), .cst (.int .i64 1)], none⟩, ⟨some 51, .move (.tmp 52), none⟩, ⟨some 53, .extract (.tmp 51) 0, none⟩, ⟨some 54, .extract (.tmp 51) 1, none⟩, ⟨some 5, .move (.tmp 53), none⟩, ⟨some 6, .move (.tmp 54), none⟩]) (.clr [54, 53, 52, 51, 5])) (.seq (.seq (.region [⟨some 56, .call 15 [.cst (.int .i64 4), .cst (.int .i64 9)], none⟩, ⟨some 55, .move (.tmp 56), none⟩, ⟨some 57, .extract (.tmp 55) 0, none⟩, ⟨some 58, .extract (.tmp 55) 1, none⟩, ⟨some 7, .move (.tmp 57), none⟩, ⟨some 8, .move (.tmp 58), none⟩]) (.clr [58, 57, 56, 55, 7])) (.seq (.seq (.region [⟨some 60, .call 15 [.cst (.int .i64 4), .cst (.int .i64 2)], none⟩, ⟨some 59, .move (.tmp 60), none⟩, ⟨some 61, .extract (.tmp 59) 0, none⟩, ⟨some 62, .extract (.tmp 59) 1, none⟩, ⟨some 9, .move (.tmp 61), none⟩, ⟨some 10, .move (.tmp 62), none⟩]) (.clr [62, 61, 60, 59])) (.seq (.seq (.region [⟨some 64, .move (.tmp 9), none⟩, ⟨some 65, .call 27 [.tmp 64, .cst (.int .i64 0)], none⟩, ⟨some 63, .move (.tmp 65), none⟩, ⟨some 66, .extract (.tmp 63) 0, none⟩, ⟨some 67, .extract (.tmp 63) 1, none⟩, ⟨some 11, .move (.tmp 66), none⟩, ⟨some 12, .move (.tmp 67), none⟩]) (.clr [67, 66, 65, 64, 63, 11])) (.seq (.seq (.region [⟨some 69, .move (.tmp 9), none⟩, ⟨some 70, .call 27 [.tmp 69, .cst (.int .i64 0)], none⟩, ⟨some 68, .move (.tmp 70), none⟩, ⟨some 71, .extract (.tmp 68) 0, none⟩, ⟨some 72, .extract (.tmp 68) 1, none⟩, ⟨some 13, .move (.tmp 71), none⟩, ⟨some 14, .move (.tmp 72), none⟩]) (.clr [72, 71, 70, 69, 68])) (.seq (.seq (.draw [(⟨some 73, .move (.tmp 9), none⟩, []), (⟨some 74, .load (some 64) (.tmp 1), none⟩, []), (⟨some 75, .bslice [.int .u8 0, .int .u8 0, .int .u8 0, .int .u8 0, .int .u8 0, .int .u8 0, .int .u8 0, .int .u8 0, .int .u8 0, .int .u8 0, .int .u8 0, .int .u8 0, .int .u8 0, .int .u8 0, .int .u8 0, .int .u8 0, .int .u8 0, .int .u8 0, .int .u8 0, .int .u8 0, .int .u8 0, .int .u8 0, .int .u8 0, .int .u8 0, .int .u8 0, .int .u8 0, .int .u8 0, .int .u8 0, .int .u8 0, .int .u8 0, .int .u8 0, .int .u8 0, .int .u8 0, .int .u8 0, .int .u8 0, .int .u8 0, .int .u8 0, .int .u8 0, .int .u8 0, .int .u8 0, .int .u8 0, .int .u8 0, .int .u8 0, .int .u8 0, .int .u8 0, .int .u8 0, .int .u8 0, .int .u8 0, .int .u8 0, .int .u8 0, .int .u8 0, .int .u8 0, .int .u8 0, .int .u8 0, .int .u8 0, .int .u8 0, .int .u8 0, .int .u8 0, .int .u8 0, .int .u8 0, .int .u8 0, .int .u8 0, .int .u8 0, .int .u8 0] 1 64 [(0, 64, .tmp 74)], none⟩, []), (⟨some 76, .call 22 [.tmp 73, .cst (.int .i64 0), .cst (.int .i64 1), .cst (.int .i64 0), .tmp 75], none⟩, []), (⟨some 77, .move (.tmp 9), none⟩, []), (⟨some 78, .load (some 64) (.tmp 1), none⟩, [3]), (⟨some 79, .bslice [.int .u8 0, .int .u8 0, .int .u8 0, .int .u8 0, .int .u8 0, .int .u8 0, .int .u8 0, .int .u8 0, .int .u8 0, .int .u8 0, .int .u8 0, .int .u8 0, .int .u8 0, .int .u8 0, .int .u8 0, .int .u8 0, .int .u8 0, .int .u8 0, .int .u8 0, .int .u8 0, .int .u8 0, .int .u8 0, .int .u8 0, .int .u8 0, .int .u8 0, .int .u8 0, .int .u8 0, .int .u8 0, .int .u8 0, .int .u8 0, .int .u8 0, .int .u8 0, .int .u8 0, .int .u8 0, .int .u8 0, .int .u8 0, .int .u8 0, .int .u8 0, .int .u8 0, .int .u8 0, .int .u8 0, .int .u8 0, .int .u8 0, .int .u8 0, .int .u8 0, .int .u8 0, .int .u8 0, .int .u8 0, .int .u8 0, .int .u8 0, .int .u8 0, .int .u8 0, .int .u8 0, .int .u8 0, .int .u8 0, .int .u8 0, .int .u8 0, .int .u8 0, .int .u8 0, .int .u8 0, .int .u8 0, .int .u8 0, .int .u8 0, .int .u8 0] 1 64 [(0, 64, .tmp 78)], none⟩, []), (⟨some 80, .call 22 [.tmp 77, .cst (.int .i64 0), .cst (.int .i64 3), .cst (.int .i64 0), .tmp 79], none⟩, []), (⟨some 81, .move (.tmp 9), none⟩, []), (⟨some 82, .load (some 64) (.tmp 1), none⟩, [3, 7]), (⟨some 83, .load (some 64) (.tmp 2), none⟩, [3, 7]), (⟨some 84, .bslice [.int .u8 0, .int .u8 0, .int .u8 0, .int .u8 0, .int .u8 0, .int .u8 0, .int .u8 0, .int .u8 0, .int .u8 0, .int .u8 0, .int .u8 0, .int .u8 0, .int .u8 0, .int .u8 0, .int .u8 0, .int .u8 0, .int .u8 0, .int .u8 0, .int .u8 0, .int .u8 0, .int .u8 0, .int .u8 0, .int .u8 0, .int .u8 0, .int .u8 0, .int .u8 0, .int .u8 0, .int .u8 0, .int .u8 0, .int .u8 0, .int .u8 0, .int .u8 0, .int .u8 0, .int .u8 0, .int .u8 0, .int .u8 0, .int .u8 0, .int .u8 0, .int .u8 0, .int .u8 0, .int .u8 0, .int .u8 0, .int .u8 0, .int .u8 0, .int .u8 0, .int .u8 0, .int .u8 0, .int .u8 0, .int .u8 0, .int .u8 0, .int .u8 0, .int .u8 0, .int .u8 0, .int .u8 0, .int .u8 0, .int .u8 0, .int .u8 0, .int .u8 0, .int .u8 0, .int .u8 0, .int .u8 0, .int .u8 0, .int .u8 0, .int .u8 0, .int .u8 0, .int .u8 0, .int .u8 0, .int .u8 0, .int .u8 0, .int .u8 0, .int .u8 0, .int .u8 0, .int .u8 0, .int .u8 0, .int .u8 0, .int .u8 0, .int .u8 0, .int .u8 0, .int .u8 0, .int .u8 0, .int .u8 0, .int .u8 0, .int .u8 0, .int .u8 0, .int .u8 0, .int .u8 0, .int .u8 0, .int .u8 0, .int .u8 0, .int .u8 0, .int .u8 0, .int .u8 0, .int .u8 0, .int .u8 0, .int .u8 0, .int .u8 0, .int .u8 0, .int .u8 0, .int .u8 0, .int .u8 0, .int .u8 0, .int .u8 0, .int .u8 0, .int .u8 0, .int .u8 0, .int .u8 0, .int .u8 0, .int .u8 0, .int .u8 0, .int .u8 0, .int .u8 0, .int .u8 0, .int .u8 0, .int .u8 0, .int .u8 0, .int .u8 0, .int .u8 0, .int .u8 0, .int .u8 0, .int .u8 0, .int .u8 0, .int .u8 0, .int .u8 0, .int .u8 0, .int .u8 0, .int .u8 0, .int .u8 0, .int .u8 0] 2 64 [(0, 64, .tmp 82), (64, 64, .tmp 83)], none⟩, []), (⟨some 85, .call 22 [.tmp 81, .cst (.int .i64 0), .cst (.int .i64 2), .cst (.int .i64 3), .tmp 84], none⟩, []), (⟨some 86, .move (.tmp 9), none⟩, []), (⟨some 87, .load (some 64) (.tmp 1), none⟩, [3, 7, 12]), (⟨some 88, .load (some 64) (.tmp 2), none⟩, [3, 7, 12]), (⟨some 89, .bslice [.int .u8 0, .int .u8 0, .int .u8 0, .int .u8 0, .int .u8 0, .int .u8 0, .int .u8 0, .int .u8 0, .int .u8 0, .int .u8 0, .int .u8 0, .int .u8 0, .int .u8 0, .int .u8 0, .int .u8 0, .int .u8 0, .int .u8 0, .int .u8 0, .int .u8 0, .int .u8 0, .int .u8 0, .int .u8 0, .int .u8 0, .int .u8 0, .int .u8 0, .int .u8 0, .int .u8 0, .int .u8 0, .int .u8 0, .int .u8 0, .int .u8 0, .int .u8 0, .int .u8 0, .int .u8 0, .int .u8 0, .int .u8 0, .int .u8 0, .int .u8 0, .int .u8 0, .int .u8 0, .int .u8 0, .int .u8 0, .int .u8 0, .int .u8 0, .int .u8 0, .int .u8 0, .int .u8 0, .int .u8 0, .int .u8 0, .int .u8 0, .int .u8 0, .int .u8 0, .int .u8 0, .int .u8 0, .int .u8 0, .int .u8 0, .int .u8 0, .int .u8 0, .int .u8 0, .int .u8 0, .int .u8 0, .int .u8 0, .int .u8 0, .int .u8 0, .int .u8 0, .int .u8 0, .int .u8 0, .int .u8 0, .int .u8 0, .int .u8 0, .int .u8 0, .int .u8 0, .int .u8 0, .int .u8 0, .int .u8 0, .int .u8 0, .int .u8 0, .int .u8 0, .int .u8 0, .int .u8 0, .int .u8 0, .int .u8 0, .int .u8 0, .int .u8 0, .int .u8 0, .int .u8 0, .int .u8 0, .int .u8 0, .int .u8 0, .int .u8 0, .int .u8 0, .int .u8 0, .int .u8 0, .int .u8 0, .int .u8 0, .int .u8 0, .int .u8 0, .int .u8 0, .int .u8 0, .int .u8 0, .int .u8 0, .int .u8 0, .int .u8 0, .int .u8 0, .int .u8 0, .int .u8 0, .int .u8 0, .int .u8 0, .int .u8 0, .int .u8 0, .int .u8 0, .int .u8 0, .int .u8 0, .int .u8 0, .int .u8 0, .int .u8 0, .int .u8 0, .int .u8 0, .int .u8 0, .int .u8 0, .int .u8 0, .int .u8 0, .int .u8 0, .int .u8 0, .int .u8 0, .int .u8 0, .int .u8 0, .int .u8 0] 2 64 [(0, 64, .tmp 87), (64, 64, .tmp 88)], none⟩, []), (⟨some 90, .call 22 [.tmp 86, .cst (.int .i64 0), .cst (.int .i64 2), .cst (.int .i64 2), .tmp 89], none⟩, []), (⟨some 15, .move (.tmp 76), none⟩, []), (⟨some 16, .move (.tmp 80), none⟩, []), (⟨some 17, .move (.tmp 85), none⟩, []), (⟨some 18, .move (.tmp 90), none⟩, [])]) (.clr [90, 89, 88, 87, 86, 85, 84, 83, 82, 81, 80, 79, 78, 77, 76, 75, 74, 73])) (.seq (.seq (.draw [(⟨some 91, .move (.tmp 9), none⟩, []), (⟨some 92, .call 25 [.tmp 91, .cst (.int .i64 1)], none⟩, []), (⟨some 93, .move (.tmp 9), none⟩, []), (⟨some 94, .load (some 64) (.tmp 2), none⟩, [1]), (⟨some 95, .load (some 64) (.tmp 2), none⟩, [1]), (⟨some 96, .bslice [.int .u8 0, .int .u8 0, .int .u8 0, .int .u8 0, .int .u8 0, .int .u8 0, .int .u8 0, .int .u8 0, .int .u8 0, .int .u8 0, .int .u8 0, .int .u8 0, .int .u8 0, .int .u8 0, .int .u8 0, .int .u8 0, .int .u8 0, .int .u8 0, .int .u8 0, .int .u8 0, .int .u8 0, .int .u8 0, .int .u8 0, .int .u8 0, .int .u8 0, .int .u8 0, .int .u8 0, .int .u8 0, .int .u8 0, .int .u8 0, .int .u8 0, .int .u8 0, .int .u8 0, .int .u8 0, .int .u8 0, .int .u8 0, .int .u8 0, .int .u8 0, .int .u8 0, .int .u8 0, .int .u8 0, .int .u8 0, .int .u8 0, .int .u8 0, .int .u8 0, .int .u8 0, .int .u8 0, .int .u8 0, .int .u8 0, .int .u8 0, .int .u8 0, .int .u8 0, .int .u8 0, .int .u8 0, .int .u8 0, .int .u8 0, .int .u8 0, .int .u8 0, .int .u8 0, .int .u8 0, .int .u8 0, .int .u8 0, .int .u8 0, .int .u8 0, .int .u8 0, .int .u8 0, .int .u8 0, .int .u8 0, .int .u8 0, .int .u8 0, .int .u8 0, .int .u8 0, .int .u8 0, .int .u8 0, .int .u8 0, .int .u8 0, .int .u8 0, .int .u8 0, .int .u8 0, .int .u8 0, .int .u8 0, .int .u8 0, .int .u8 0, .int .u8 0, .int .u8 0, .int .u8 0, .int .u8 0, .int .u8 0, .int .u8 0, .int .u8 0, .int .u8 0, .int .u8 0, .int .u8 0, .int .u8 0, .int .u8 0, .int .u8 0, .int .u8 0, .int .u8 0, .int .u8 0, .int .u8 0, .int .u8 0, .int .u8 0, .int .u8 0, .int .u8 0, .int .u8 0, .int .u8 0, .int .u8 0, .int .u8 0, .int .u8 0, .int .u8 0, .int .u8 0, .int .u8 0, .int .u8 0, .int .u8 0, .int .u8 0, .int .u8 0, .int .u8 0, .int .u8 0, .int .u8 0, .int .u8 0, .int .u8 0, .int .u8 0, .int .u8 0, .int .u8 0, .int .u8 0, .int .u8 0, .int .u8 0, .int .u8 0] 2 64 [(0, 64, .tmp 94), (64, 64, .tmp 95)], none⟩, []), (⟨some 97, .call 22 [.tmp 93, .cst (.int .i64 0), .cst (.int .i64 2), .cst (.int .i64 0), .tmp 96], none⟩, []), (⟨some 19, .move (.tmp 92), none⟩, []), (⟨some 20, .move (.tmp 97), none⟩, [])]) (.clr [97, 96, 95, 94, 93, 92, 91])) (.seq (.seq (.region [⟨some 98, .move (.tmp 9), none⟩, ⟨some 99, .load (some 64) (.tmp 1), none⟩, ⟨some 100, .bslice [.int .u8 0, .int .u8 0, .int .u8 0, .int .u8 0, .int .u8 0, .int .u8 0, .int .u8 0, .int .u8 0, .int .u8 0, .int .u8 0, .int .u8 0, .int .u8 0, .int .u8 0, .int .u8 0, .int .u8 0, .int .u8 0, .int .u8 0, .int .u8 0, .int .u8 0, .int .u8 0, .int .u8 0, .int .u8 0, .int .u8 0, .int .u8 0, .int .u8 0, .int .u8 0, .int .u8 0, .int .u8 0, .int .u8 0, .int .u8 0, .int .u8 0, .int .u8 0, .int .u8 0, .int .u8 0, .int .u8 0, .int .u8 0, .int .u8 0, .int .u8 0, .int .u8 0, .int .u8 0, .int .u8 0, .int .u8 0, .int .u8 0, .int .u8 0, .int .u8 0, .int .u8 0, .int .u8 0, .int .u8 0, .int .u8 0, .int .u8 0, .int .u8 0, .int .u8 0, .int .u8 0, .int .u8 0, .int .u8 0, .int .u8 0, .int .u8 0, .int .u8 0, .int .u8 0, .int .u8 0, .int .u8 0, .int .u8 0, .int .u8 0, .int .u8 0] 1 64 [(0, 64, .tmp 99)], none⟩, ⟨some 101, .call 22 [.tmp 98, .cst (.int .i64 0), .cst (.int .i64 2), .cst (.int .i64 1), .tmp 100], none⟩, ⟨some 21, .move (.tmp 101), none⟩]) (.clr [101, 100, 99, 98])) (.seq (.seq (.region [⟨some 103, .move (.tmp 9), none⟩, ⟨some 104, .load (some 64) (.tmp 2), none⟩, ⟨some 105, .load (some 64) (.tmp 1), none⟩, ⟨some 106, .call 29 [.tmp 103, .cst (.int .i64 0), .cst (.int .i64 2), .cst (.int .i64 0), .tmp 104, .tmp 105], none⟩, ⟨some 102, .move (.tmp 106), none⟩, ⟨some 107, .extract (.tmp 102) 0, none⟩, ⟨some 108, .extract (.tmp 102) 1, none⟩, ⟨some 22, .move (.tmp 107), none⟩, ⟨some 23, .move (.tmp 108), none⟩]) (.clr [108, 107, 106, 105, 104, 103, 102, 23])) (.seq (.seq (.region [⟨some 110, .move (.tmp 9), none⟩, ⟨some 111, .call 27 [.tmp 110, .cst (.int .i64 1)], none⟩, ⟨some 109, .move (.tmp 111), none⟩, ⟨some 112, .extract (.tmp 109) 0, none⟩, ⟨some 113, .extract (.tmp 109) 1, none⟩, ⟨some 24, .move (.tmp 112), none⟩, ⟨some 25, .move (.tmp 113), none⟩]) (.clr [113, 112, 111, 110, 109, 25])) (.seq (.seq (.region [⟨some 114, .move (.tmp 9), none⟩, ⟨some 115, .call 20 [.tmp 114], none⟩, ⟨some 26, .move (.tmp 115), none⟩]) (.clr [115, 114])) (.seq (.seq (.region [⟨some 117, .move (.tmp 9), none⟩, ⟨some 118, .call 19 [.tmp 117, .cst (.int .i64 1)], none⟩, ⟨some 116, .move (.tmp 118), none⟩, ⟨some 119, .extract (.tmp 116) 0, none⟩, ⟨some 120, .extract (.tmp 116) 1, none⟩, ⟨some 27, .move (.tmp 119), none⟩, ⟨some 28, .move (.tmp 120), none⟩]) (.clr [120, 119, 118, 117, 116, 28])) (.seq (.seq (.seq (.region [⟨some 121, .move (.tmp 21), none⟩, ⟨some 122, .call 11 [.tmp 121], none⟩, ⟨some 123, .bin .neq (.tmp 122) (.cst (.int .i64 0)), none⟩, ⟨some 124, .move (.tmp 123), none⟩, ⟨some 125, .move (.tmp 22), some (124, false)⟩, ⟨some 126, .un .not (.tmp 125), some (124, false)⟩, ⟨some 127, .pick (.tmp 124) (.cst (.bool true)) (.tmp 126), none⟩, ⟨some 128, .move (.tmp 127), none⟩, ⟨some 129, .move (.tmp 24), some (128, false)⟩, ⟨some 130, .bin .neq (.tmp 129) (.cst (.int .i64 1)), some (128, false)⟩, ⟨some 131, .pick (.tmp 128) (.cst (.bool true)) (.tmp 130), none⟩, ⟨some 132, .move (.tmp 131), none⟩, ⟨some 133, .move (.tmp 27), some (132, false)⟩, ⟨some 134, .bin .neq (.tmp 133) (.cst (.int .i64 0)), some (132, false)⟩, ⟨some 135, .pick (.tmp 132) (.cst (.bool true)) (.tmp 134), none⟩, ⟨some 136, .move (.tmp 135), none⟩, ⟨some 137, .move (.tmp 9), some (136, false)⟩, ⟨some 138, .call 20 [.tmp 137], some (136, false)⟩, ⟨some 139, .un .not (.tmp 138), some (136, false)⟩, ⟨some 140, .pick (.tmp 136) (.cst (.bool true)) (.tmp 139), none⟩]) (.clr [139, 138, 137, 136, 135, 134, 133, 132, 131, 130, 129, 128, 127, 126, 125, 124, 123, 122, 121, 27, 24, 22, 21])) (.cond (.tmp 140) (.seq (.clr [140, 26, 20, 19, 18, 17, 16, 15, 14, 13, 12, 10, 9, 8, 6, 4, 2, 1]) (.seq (.region [⟨some 0, .move (.cst (.bool false)), none⟩]) .ret)) (.seq (.clr [140]) .skip))) (.seq (.seq (.region [⟨some 142, .move (.tmp 9), none⟩, ⟨some 143, .call 26 [.tmp 142, .cst (.int .i64 0)], none⟩, ⟨some 141, .move (.tmp 143), none⟩, ⟨some 144, .extract (.tmp 141) 0, none⟩, ⟨some 145, .extract (.tmp 141) 1, none⟩, ⟨some 29, .allocz 2 [.int .u8 0, .int .u8 0, .int .u8 0, .int .u8 0, .int .u8 0, .int .u8 0, .int .u8 0, .int .u8 0, .int .u8 0, .int .u8 0, .int .u8 0, .int .u8 0, .int .u8 0, .int .u8 0, .int .u8 0, .int .u8 0, .int .u8 0, .int .u8 0, .int .u8 0, .int .u8 0, .int .u8 0, .int .u8 0, .int .u8 0, .int .u8 0, .int .u8 0, .int .u8 0, .int .u8 0, .int .u8 0, .int .u8 0, .int .u8 0, .int .u8 0, .int .u8 0, .int .u8 0, .int .u8 0, .int .u8 0, .int .u8 0, .int .u8 0, .int .u8 0, .int .u8 0, .int .u8 0, .int .u8 0, .int .u8 0, .int .u8 0, .int .u8 0, .int .u8 0, .int .u8 0, .int .u8 0, .int .u8 0, .int .u8 0, .int .u8 0, .int .u8 0, .int .u8 0, .int .u8 0, .int .u8 0, .int .u8 0, .int .u8 0, .int .u8 0, .int .u8 0, .int .u8 0, .int .u8 0, .int .u8 0, .int .u8 0, .int .u8 0, .int .u8 0], none⟩, ⟨none, .store 64 (.tmp 29) (.tmp 144), none⟩, ⟨some 30, .move (.tmp 145), none⟩]) (.clr [145, 144, 143, 142, 141, 30])) (.seq (.seq (.region [⟨some 147, .move (.tmp 9), none⟩, ⟨some 148, .call 26 [.tmp 147, .cst (.int .i64 1)], none⟩, ⟨some 146, .move (.tmp 148), none⟩, ⟨some 149, .extract (.tmp 146) 0, none⟩, ⟨some 150, .extract (.tmp 146) 1, none⟩, ⟨some 31, .allocz 3 [.int .u8 0, .int .u8 0, .int .u8 0, .int .u8 0, .int .u8 0, .int .u8 0, .int .u8 0, .int .u8 0, .int .u8 0, .int .u8 0, .int .u8 0, .int .u8 0, .int .u8 0, .int .u8 0, .int .u8 0, .int .u8 0, .int .u8 0, .int .u8 0, .int .u8 0, .int .u8 0, .int .u8 0, .int .u8 0, .int .u8 0, .int .u8 0, .int .u8 0, .int .u8 0, .int .u8 0, .int .u8 0, .int .u8 0, .int .u8 0, .int .u8 0, .int .u8 0, .int .u8 0, .int .u8 0, .int .u8 0, .int .u8 0, .int .u8 0, .int .u8 0, .int .u8 0, .int .u8 0, .int .u8 0, .int .u8 0, .int .u8 0, .int .u8 0, .int .u8 0, .int .u8 0, .int .u8 0, .int .u8 0, .int .u8 0, .int .u8 0, .int .u8 0, .int .u8 0, .int .u8 0, .int .u8 0, .int .u8 0, .int .u8 0, .int .u8 0, .int .u8 0, .int .u8 0, .int .u8 0, .int .u8 0, .int .u8 0, .int .u8 0, .int .u8 0], none⟩, ⟨none, .store 64 (.tmp 31) (.tmp 149), none⟩, ⟨some 32, .move (.tmp 150), none⟩]) (.clr [150, 149, 148, 147, 146, 32])) (.seq (.seq (.region [⟨some 152, .move (.tmp 9), none⟩, ⟨some 153, .load (some 64) (.tmp 1), none⟩, ⟨some 154, .load (some 64) (.tmp 2), none⟩, ⟨some 155, .call 29 [.tmp 152, .cst (.int .i64 0), .cst (.int .i64 2), .cst (.int .i64 0), .tmp 153, .tmp 154], none⟩, ⟨some 151, .move (.tmp 155), none⟩, ⟨some 156, .extract (.tmp 151) 0, none⟩, ⟨some 157, .extract (.tmp 151) 1, none⟩, ⟨some 33, .move (.tmp 156), none⟩, ⟨some 34, .move (.tmp 157), none⟩]) (.clr [157, 156, 155, 154, 153, 152, 151, 34])) (.seq (.seq (.region [⟨some 159, .move (.tmp 9), none⟩, ⟨some 160, .load (some 64) (.tmp 2), none⟩, ⟨some 161, .load (some 64) (.tmp 1), none⟩, ⟨some 162, .call 29 [.tmp 159, .cst (.int .i64 0), .cst (.int .i64 2), .cst (.int .i64 0), .tmp 160, .tmp 161], none⟩, ⟨some 158, .move (.tmp 162), none⟩, ⟨some 163, .extract (.tmp 158) 0, none⟩, ⟨some 164, .extract (.tmp 158) 1, none⟩, ⟨some 35, .move (.tmp 163), none⟩, ⟨some 36, .move (.tmp 164), none⟩]) (.clr [164, 163, 162, 161, 160, 159, 158, 36])) (.seq (.seq (.region [⟨some 166, .move (.tmp 9), none⟩, ⟨some 167, .call 26 [.tmp 166, .cst (.int .i64 0)], none⟩, ⟨some 165, .move (.tmp 167), none⟩, ⟨some 168, .extract (.tmp 165) 0, none⟩, ⟨some 169, .extract (.tmp 165) 1, none⟩, ⟨some 37, .allocz 4 [.int .u8 0, .int .u8 0, .int .u8 0, .int .u8 0, .int .u8 0, .int .u8 0, .int .u8 0, .int .u8 0, .int .u8 0, .int .u8 0, .int .u8 0, .int .u8 0, .int .u8 0, .int .u8 0, .int .u8 0, .int .u8 0, .int .u8 0, .int .u8 0, .int .u8 0, .int .u8 0, .int .u8 0, .int .u8 0, .int .u8 0, .int .u8 0, .int .u8 0, .int .u8 0, .int .u8 0, .int .u8 0, .int .u8 0, .int .u8 0, .int .u8 0, .int .u8 0, .int .u8 0, .int .u8 0, .int .u8 0, .int .u8 0, .int .u8 0, .int .u8 0, .int .u8 0, .int .u8 0, .int .u8 0, .int .u8 0, .int .u8 0, .int .u8 0, .int .u8 0, .int .u8 0, .int .u8 0, .int .u8 0, .int .u8 0, .int .u8 0, .int .u8 0, .int .u8 0, .int .u8 0, .int .u8 0, .int .u8 0, .int .u8 0, .int .u8 0, .int .u8 0, .int .u8 0, .int .u8 0, .int .u8 0, .int .u8 0, .int .u8 0, .int .u8 0], none⟩, ⟨none, .store 64 (.tmp 37) (.tmp 168), none⟩, ⟨some 38, .move (.tmp 169), none⟩]) (.clr [169, 168, 167, 166, 165, 38])) (.seq (.seq (.draw [(⟨some 170, .move (.tmp 9), none⟩, []), (⟨some 171, .call 24 [.tmp 170, .cst (.int .i64 1), .cst (.int .i64 0), .cst (.int .i64 0), .cst (.int .i64 2)], none⟩, []), (⟨some 172, .move (.tmp 9), none⟩, []), (⟨some 173, .load (some 64) (.tmp 2), none⟩, [1]), (⟨some 174, .bslice [.int .u8 0, .int .u8 0, .int .u8 0, .int .u8 0, .int .u8 0, .int .u8 0, .int .u8 0, .int .u8 0, .int .u8 0, .int .u8 0, .int .u8 0, .int .u8 0, .int .u8 0, .int .u8 0, .int .u8 0, .int .u8 0, .int .u8 0, .int .u8 0, .int .u8 0, .int .u8 0, .int .u8 0, .int .u8 0, .int .u8 0, .int .u8 0, .int .u8 0, .int .u8 0, .int .u8 0, .int .u8 0, .int .u8 0, .int .u8 0, .int .u8 0, .int .u8 0, .int .u8 0, .int .u8 0, .int .u8 0, .int .u8 0, .int .u8 0, .int .u8 0, .int .u8 0, .int .u8 0, .int .u8 0, .int .u8 0, .int .u8 0, .int .u8 0, .int .u8 0, .int .u8 0, .int .u8 0, .int .u8 0, .int .u8 0, .int .u8 0, .int .u8 0, .int .u8 0, .int .u8 0, .int .u8 0, .int .u8 0, .int .u8 0, .int .u8 0, .int .u8 0, .int .u8 0, .int .u8 0, .int .u8 0, .int .u8 0, .int .u8 0, .int .u8 0] 1 64 [(0, 64, .tmp 173)], none⟩, []), (⟨some 175, .call 22 [.tmp 172, .cst (.int .i64 0), .cst (.int .i64 2), .cst (.int .i64 0), .tmp 174], none⟩, []), (⟨some 176, .move (.tmp 9), none⟩, []), (⟨some 177, .call 24 [.tmp 176, .cst (.int .i64 0), .cst (.int .i64 2), .cst (.int .i64 1), .cst (.int .i64 9)], none⟩, []), (⟨some 178, .move (.tmp 9), none⟩, []), (⟨some 179, .call 24 [.tmp 178, .cst (.int .i64 1), .cst (.int .i64 0), .cst (.int .i64 0), .cst (.int .i64 1)], none⟩, []), (⟨some 39, .move (.tmp 171), none⟩, []), (⟨some 40, .move (.tmp 175), none⟩, []), (⟨some 41, .move (.tmp 177), none⟩, []), (⟨some 42, .move (.tmp 179), none⟩, [])]) (.clr [179, 178, 177, 176, 175, 174, 173, 172, 171, 170])) (.seq (.seq (.region [⟨some 181, .move (.tmp 9), none⟩, ⟨some 182, .call 19 [.tmp 181, .cst (.int .i64 0)], none⟩, ⟨some 180, .move (.tmp 182), none⟩, ⟨some 183, .extract (.tmp 180) 0, none⟩, ⟨some 184, .extract (.tmp 180) 1, none⟩, ⟨some 43, .move (.tmp 183), none⟩, ⟨some 44, .move (.tmp 184), none⟩]) (.clr [184, 183, 182, 181, 180, 44, 9])) (.seq (.seq (.region [⟨some 185, .move (.tmp 4), none⟩, ⟨some 186, .call 11 [.tmp 185], none⟩, ⟨some 187, .bin .eql (.tmp 186) (.cst (.int .i64 2)), none⟩, ⟨some 188, .move (.tmp 187), none⟩, ⟨some 189, .move (.tmp 6), some (188, true)⟩, ⟨some 190, .call 11 [.tmp 189], some (188, true)⟩, ⟨some 191, .bin .eql (.tmp 190) (.cst (.int .i64 2)), some (188, true)⟩, ⟨some 192, .pick (.tmp 188) (.tmp 191) (.cst (.bool false)), none⟩, ⟨some 193, .move (.tmp 192), none⟩, ⟨some 194, .move (.tmp 8), some (193, true)⟩, ⟨some 195, .call 11 [.tmp 194], some (193, true)⟩, ⟨some 196, .bin .eql (.tmp 195) (.cst (.int .i64 2)), some (193, true)⟩, ⟨some 197, .pick (.tmp 193) (.tmp 196) (.cst (.bool false)), none⟩, ⟨some 198, .move (.tmp 197), none⟩, ⟨some 199, .move (.tmp 10), some (198, true)⟩, ⟨some 200, .call 11 [.tmp 199], some (198, true)⟩, ⟨some 201, .move (.tmp 12), some (198, true)⟩, ⟨some 202, .call 11 [.tmp 201], some (198, true)⟩, ⟨some 203, .bin .add (.tmp 200) (.tmp 202), some (198, true)⟩, ⟨some 204, .move (.tmp 14), some (198, true)⟩, ⟨some 205, .call 11 [.tmp 204], some (198, true)⟩, ⟨some 206, .bin .add (.tmp 203) (.tmp 205), some (198, true)⟩, ⟨some 207, .move (.tmp 18), some (198, true)⟩, ⟨some 208, .call 11 [.tmp 207], some (198, true)⟩, ⟨some 209, .bin .add (.tmp 206) (.tmp 208), some (198, true)⟩, ⟨some 210, .move (.tmp 19), some (198, true)⟩, ⟨some 211, .call 11 [.tmp 210], some (198, true)⟩, ⟨some 212, .bin .add (.tmp 209) (.tmp 211), some (198, true)⟩, ⟨some 213, .move (.tmp 20), some (198, true)⟩, ⟨some 214, .call 11 [.tmp 213], some (198, true)⟩, ⟨some 215, .bin .add (.tmp 212) (.tmp 214), some (198, true)⟩, ⟨some 216, .move (.tmp 39), some (198, true)⟩, ⟨some 217, .call 11 [.tmp 216], some (198, true)⟩, ⟨some 218, .bin .add (.tmp 215) (.tmp 217), some (198, true)⟩, ⟨some 219, .move (.tmp 42), some (198, true)⟩, ⟨some 220, .call 11 [.tmp 219], some (198, true)⟩, ⟨some 221, .bin .add (.tmp 218) (.tmp 220), some (198, true)⟩, ⟨some 222, .bin .eql (.tmp 221) (.cst (.int .i64 0)), some (198, true)⟩, ⟨some 223, .pick (.tmp 198) (.tmp 222) (.cst (.bool false)), none⟩, ⟨some 224, .move (.tmp 223), none⟩, ⟨some 225, .move (.tmp 13), some (224, true)⟩, ⟨some 226, .bin .eql (.tmp 225) (.cst (.int .i64 2)), some (224, true)⟩, ⟨some 227, .pick (.tmp 224) (.tmp 226) (.cst (.bool false)), none⟩, ⟨some 228, .move (.tmp 227), none⟩, ⟨some 229, .move (.tmp 15), some (228, true)⟩, ⟨some 230, .call 11 [.tmp 229], some (228, true)⟩, ⟨some 231, .bin .eql (.tmp 230) (.cst (.int .i64 8)), some (228, true)⟩, ⟨some 232, .pick (.tmp 228) (.tmp 231) (.cst (.bool false)), none⟩, ⟨some 233, .move (.tmp 232), none⟩, ⟨some 234, .move (.tmp 16), some (233, true)⟩, ⟨some 235, .call 11 [.tmp 234], some (233, true)⟩, ⟨some 236, .bin .eql (.tmp 235) (.cst (.int .i64 2)), some (233, true)⟩, ⟨some 237, .pick (.tmp 233) (.tmp 236) (.cst (.bool false)), none⟩, ⟨some 238, .move (.tmp 237), none⟩, ⟨some 239, .move (.tmp 17), some (238, true)⟩, ⟨some 240, .call 11 [.tmp 239], some (238, true)⟩, ⟨some 241, .bin .eql (.tmp 240) (.cst (.int .i64 2)), some (238, true)⟩, ⟨some 242, .pick (.tmp 238) (.tmp 241) (.cst (.bool false)), none⟩, ⟨some 243, .move (.tmp 242), none⟩, ⟨some 244, .move (.tmp 26), some (243, true)⟩, ⟨some 245, .un .not (.tmp 244), some (243, true)⟩, ⟨some 246, .pick (.tmp 243) (.tmp 245) (.cst (.bool false)), none⟩, ⟨some 247, .move (.tmp 246), none⟩, ⟨some 248, .load (some 64) (.tmp 29), some (247, true)⟩, ⟨some 249, .load (some 64) (.tmp 2), some (247, true)⟩, ⟨some 250, .eqc false true [.i .u8, .i .u8, .i .u8, .i .u8, .i .u8, .i .u8, .i .u8, .i .u8, .i .u8, .i .u8, .i .u8, .i .u8, .i .u8, .i .u8, .i .u8, .i .u8, .i .u8, .i .u8, .i .u8, .i .u8, .i .u8, .i .u8, .i .u8, .i .u8, .i .u8, .i .u8, .i .u8, .i .u8, .i .u8, .i .u8, .i .u8, .i .u8, .i .u8, .i .u8, .i .u8, .i .u8, .i .u8, .i .u8, .i .u8, .i .u8, .i .u8, .i .u8, .i .u8, .i .u8, .i .u8, .i .u8, .i .u8, .i .u8, .i .u8, .i .u8, .i .u8, .i .u8, .i .u8, .i .u8, .i .u8, .i .u8, .i .u8, .i .u8, .i .u8, .i .u8, .i .u8, .i .u8, .i .u8, .i .u8] (.tmp 248) (.tmp 249), some (247, true)⟩, ⟨some 251, .pick (.tmp 247) (.tmp 250) (.cst (.bool false)), none⟩, ⟨some 252, .move (.tmp 251), none⟩, ⟨some 253, .load (some 64) (.tmp 31), some (252, true)⟩, ⟨some 254, .build [.int .u8 0, .int .u8 0, .int .u8 0, .int .u8 0, .int .u8 0, .int .u8 0, .int .u8 0, .int .u8 0, .int .u8 0, .int .u8 0, .int .u8 0, .int .u8 0, .int .u8 0, .int .u8 0, .int .u8 0, .int .u8 0, .int .u8 0, .int .u8 0, .int .u8 0, .int .u8 0, .int .u8 0, .int .u8 0, .int .u8 0, .int .u8 0, .int .u8 0, .int .u8 0, .int .u8 0, .int .u8 0, .int .u8 0, .int .u8 0, .int .u8 0, .int .u8 0, .int .u8 0, .int .u8 0, .int .u8 0, .int .u8 0, .int .u8 0, .int .u8 0, .int .u8 0, .int .u8 0, .int .u8 0, .int .u8 0, .int .u8 0, .int .u8 0, .int .u8 0, .int .u8 0, .int .u8 0, .int .u8 0, .int .u8 0, .int .u8 0, .int .u8 0, .int .u8 0, .int .u8 0, .int .u8 0, .int .u8 0, .int .u8 0, .int .u8 0, .int .u8 0, .int .u8 0, .int .u8 0, .int .u8 0, .int .u8 0, .int .u8 0, .int .u8 0] [], some (252, true)⟩, ⟨some 255, .eqc false true [.i .u8, .i .u8, .i .u8, .i .u8, .i .u8, .i .u8, .i .u8, .i .u8, .i .u8, .i .u8, .i .u8, .i .u8, .i .u8, .i .u8, .i .u8, .i .u8, .i .u8, .i .u8, .i .u8, .i .u8, .i .u8, .i .u8, .i .u8, .i .u8, .i .u8, .i .u8, .i .u8, .i .u8, .i .u8, .i .u8, .i .u8, .i .u8, .i .u8, .i .u8, .i .u8, .i .u8, .i .u8, .i .u8, .i .u8, .i .u8, .i .u8, .i .u8, .i .u8, .i .u8, .i .u8, .i .u8, .i .u8, .i .u8, .i .u8, .i .u8, .i .u8, .i .u8, .i .u8, .i .u8, .i .u8, .i .u8, .i .u8, .i .u8, .i .u8, .i .u8, .i .u8, .i .u8, .i .u8, .i .u8] (.tmp 253) (.tmp 254), some (252, true)⟩, ⟨some 256, .pick (.tmp 252) (.tmp 255) (.cst (.bool false)), none⟩, ⟨some 257, .move (.tmp 256), none⟩, ⟨some 258, .move (.tmp 33), some (257, true)⟩, ⟨some 259, .un .not (.tmp 258), some (257, true)⟩, ⟨some 260, .pick (.tmp 257) (.tmp 259) (.cst (.bool false)), none⟩, ⟨some 261, .move (.tmp 260), none⟩, ⟨some 262, .move (.tmp 35), some (261, true)⟩, ⟨some 263, .pick (.tmp 261) (.tmp 262) (.cst (.bool false)), none⟩, ⟨some 264, .move (.tmp 263), none⟩, ⟨some 265, .load (some 64) (.tmp 37), some (264, true)⟩, ⟨some 266, .load (some 64) (.tmp 1), some (264, true)⟩, ⟨some 267, .eqc false true [.i .u8, .i .u8, .i .u8, .i .u8, .i .u8, .i .u8, .i .u8, .i .u8, .i .u8, .i .u8, .i .u8, .i .u8, .i .u8, .i .u8, .i .u8, .i .u8, .i .u8, .i .u8, .i .u8, .i .u8, .i .u8, .i .u8, .i .u8, .i .u8, .i .u8, .i .u8, .i .u8, .i .u8, .i .u8, .i .u8, .i .u8, .i .u8, .i .u8, .i .u8, .i .u8, .i .u8, .i .u8, .i .u8, .i .u8, .i .u8, .i .u8, .i .u8, .i .u8, .i .u8, .i .u8, .i .u8, .i .u8, .i .u8, .i .u8, .i .u8, .i .u8, .i .u8, .i .u8, .i .u8, .i .u8, .i .u8, .i .u8, .i .u8, .i .u8, .i .u8, .i .u8, .i .u8, .i .u8, .i .u8] (.tmp 265) (.tmp 266), some (264, true)⟩, ⟨some 268, .pick (.tmp 264) (.tmp 267) (.cst (.bool false)), none⟩, ⟨some 269, .move (.tmp 268), none⟩, ⟨some 270, .move (.tmp 40), some (269, true)⟩, ⟨some 271, .call 11 [.tmp 270], some (269, true)⟩, ⟨some 272, .bin .eql (.tmp 271) (.cst (.int .i64 8)), some (269, true)⟩, ⟨some 273, .pick (.tmp 269) (.tmp 272) (.cst (.bool false)), none⟩, ⟨some 274, .move (.tmp 273), none⟩, ⟨some 275, .move (.tmp 41), some (274, true)⟩, ⟨some 276, .call 11 [.tmp 275], some (274, true)⟩, ⟨some 277, .bin .eql (.tmp 276) (.cst (.int .i64 8)), some (274, true)⟩, ⟨some 278, .pick (.tmp 274) (.tmp 277) (.cst (.bool false)), none⟩, ⟨some 279, .move (.tmp 278), none⟩, ⟨some 280, .move (.tmp 43), some (279, true)⟩, ⟨some 281, .bin .eql (.tmp 280) (.cst (.int .i64 3)), some (279, true)⟩, ⟨some 282, .pick (.tmp 279) (.tmp 281) (.cst (.bool false)), none⟩, ⟨some 0, .move (.tmp 282), none⟩]) (.clr [282, 281, 280, 279, 278, 277, 276, 275, 274, 273, 272, 271, 270, 269, 268, 267, 266, 265, 264, 263, 262, 261, 260, 259, 258, 257, 256, 255, 254, 253, 252, 251, 250, 249, 248, 247, 246, 245, 244, 243, 242, 241, 240, 239, 238, 237, 236, 235, 234, 233, 232, 231, 230, 229, 228, 227, 226, 225, 224, 223, 222, 221, 220, 219, 218, 217, 216, 215, 214, 213, 212, 211, 210, 209, 208, 207, 206, 205, 204, 203, 202, 201, 200, 199, 198, 197, 196, 195, 194, 193, 192, 191, 190, 189, 188, 187, 186, 185, 43, 42, 41, 40, 39, 37, 35, 33, 31, 29, 26, 20, 19, 18, 17, 16, 15, 14, 13, 12, 10, 8, 6, 4, 2, 1])) .ret))))))))))))))))))))))), res := [.tmp 0] }
def am9 : AFunc := { nargs := 2, nt := 57, sites := 0, mode := .keep, body := .seq (.seq (.region [⟨some 4, .move (.cst .nilp), none⟩, ⟨some 5, .move (.cst (.int .i64 0)), none⟩]) (.clr [5, 4])) (.seq (.seq (.seq (.region [⟨some 9, .move (.tmp 0), none⟩, ⟨some 10, .lenS (.tmp 9), none⟩, ⟨some 11, .bin .rem (.tmp 10) (.cst (.int .i64 64)), none⟩, ⟨some 12, .bin .neq (.tmp 11) (.cst (.int .i64 0)), none⟩, ⟨some 13, .move (.tmp 12), none⟩, ⟨some 14, .move (.tmp 1), some (13, false)⟩, ⟨some 15, .call 30 [.tmp 14, .cst (.func 31 [] [])], some (13, false)⟩, ⟨some 16, .pick (.tmp 13) (.cst (.bool true)) (.tmp 15), none⟩]) (.clr [15, 14, 13, 12, 11, 10, 9])) (.cond (.tmp 16) (.seq (.clr [16, 1, 0]) (.seq (.region [⟨some 4, .move (.cst .nilp), none⟩, ⟨some 5, .move (.cst (.int .i64 2)), none⟩]) .ret)) (.seq (.clr [16]) .skip))) (.seq (.seq (.region [⟨some 18, .move (.tmp 0), none⟩, ⟨some 19, .lenS (.tmp 18), none⟩, ⟨some 20, .bin .quo (.tmp 19) (.cst (.int .i64 64)), none⟩, ⟨some 21, .move (.tmp 1), none⟩, ⟨some 22, .lenS (.tmp 21), none⟩, ⟨some 23, .call 15 [.tmp 20, .tmp 22], none⟩, ⟨some 17, .move (.tmp 23), none⟩, ⟨some 24, .extract (.tmp 17) 0, none⟩, ⟨some 25, .extract (.tmp 17) 1, none⟩, ⟨some 6, .move (.tmp 24), none⟩, ⟨some 7, .move (.tmp 25), none⟩]) (.clr [25, 24, 23, 22, 21, 20, 19, 18, 17])) (.seq (.seq (.seq (.region [⟨some 26, .move (.tmp 7), none⟩, ⟨some 27, .bin .neq (.tmp 26) (.cst (.int .i64 0)), none⟩]) (.clr [26])) (.cond (.tmp 27) (.seq (.clr [27, 6, 1, 0]) (.seq (.seq (.region [⟨some 28, .move (.tmp 7), none⟩, ⟨some 4, .move (.cst .nilp), none⟩, ⟨some 5, .move (.tmp 28), none⟩]) (.clr [28, 7])) .ret)) (.seq (.clr [27, 7]) .skip))) (.seq (.seq (.region [⟨some 29, .move (.tmp 6), none⟩, ⟨some 30, .nilck (.tmp 29), none⟩, ⟨some 31, .faddr 1 (.tmp 30), none⟩, ⟨some 32, .slA 8 1 (.tmp 31) none none none, none⟩, ⟨some 33, .move (.tmp 1), none⟩, ⟨some 34, .copy 1 (.tmp 32) (.tmp 33), none⟩]) (.clr [34, 33, 32, 31, 30, 29, 1])) (.seq (.seq (.seq (.region [⟨some 35, .move (.tmp 6), none⟩, ⟨some 36, .nilck (.tmp 35), none⟩, ⟨some 37, .faddr 0 (.tmp 36), none⟩, ⟨some 38, .load none (.tmp 37), none⟩, ⟨some 39, .lenS (.tmp 38), none⟩, ⟨some 40, .move (.cst (.int .i64 0)), none⟩]) (.clr [38, 37, 36, 35])) (.block 0 (.loop [] [] (.seq (.region [⟨some 41, .bin .lss (.tmp 40) (.tmp 39), none⟩]) (.seq (.cond (.tmp 41) (.seq (.clr [41]) .skip) (.seq (.clr [41, 40, 39, 0]) (.exit 0))) (.seq (.block 1 (.seq (.seq (.region [⟨some 42, .move (.tmp 40), none⟩, ⟨some 8, .move (.tmp 42), none⟩]) (.clr [42])) (.seq (.region [⟨some 43, .move (.tmp 6), none⟩, ⟨some 44, .nilck (.tmp 43), none⟩, ⟨some 45, .faddr 0 (.tmp 44), none⟩, ⟨some 46, .load none (.tmp 45), none⟩, ⟨some 47, .move (.tmp 8), none⟩, ⟨some 48, .move (.tmp 0), none⟩, ⟨some 49, .move (.tmp 8), none⟩, ⟨some 50, .bin .mul (.tmp 49) (.cst (.int .i64 64)), none⟩, ⟨some 51, .slS 1 (.tmp 48) (some (.tmp 50)) none none, none⟩, ⟨some 52, .s2ap 64 1 (.tmp 51), none⟩, ⟨some 53, .load (some 64) (.tmp 52), none⟩, ⟨some 54, .iaddrS 64 (.tmp 46) (.tmp 47), none⟩, ⟨none, .store 64 (.tmp 54) (.tmp 53), none⟩]) (.clr [54, 53, 52, 51, 50, 49, 48, 47, 46, 45, 44, 43, 8])))) (.seq (.region [⟨some 55, .bin .add (.tmp 40) (.cst (.int .i64 1)), none⟩, ⟨some 40, .move (.tmp 55), none⟩]) (.clr [55])))))))) (.seq (.seq (.region [⟨some 56, .move (.tmp 6), none⟩, ⟨some 4, .move (.tmp 56), none⟩, ⟨some 5, .move (.cst (.int .i64 0)), none⟩]) (.clr [56, 6])) .ret)))))), res := [.tmp 4, .tmp 5] }
def am11 : AFunc := { nargs := 1, nt := 4, sites := 0, mode := .pure, body := .seq (.seq (.region [⟨some 2, .move (.cst (.int .i64 0)), none⟩]) (.clr [2])) (.seq (.seq (.region [⟨some 3, .move (.tmp 0), none⟩, ⟨some 2, .move (.tmp 3), none⟩]) (.clr [3, 0])) .ret), res := [.tmp 2] }
def am15 : AFunc := { nargs := 2, nt := 25, sites := 2, mode := .keep, body := .seq (.seq (.region [⟨some 4, .move (.cst .nilp), none⟩, ⟨some 5, .move (.cst (.int .i64 0)), none⟩]) (.clr [5, 4])) (.seq (.seq (.seq (.region [⟨some 6, .move (.tmp 0), none⟩, ⟨some 7, .bin .lss (.tmp 6) (.cst (.int .i64 1)), none⟩, ⟨some 8, .move (.tmp 7), none⟩, ⟨some 9, .move (.tmp 0), some (8, false)⟩, ⟨some 10, .bin .gtr (.tmp 9) (.cst (.int .i64 4096)), some (8, false)⟩, ⟨some 11, .pick (.tmp 8) (.cst (.bool true)) (.tmp 10), none⟩, ⟨some 12, .move (.tmp 11), none⟩, ⟨some 13, .move (.tmp 1), some (12, false)⟩, ⟨some 14, .bin .lss (.tmp 13) (.cst (.int .i64 1)), some (12, false)⟩, ⟨some 15, .pick (.tmp 12) (.cst (.bool true)) (.tmp 14), none⟩, ⟨some 16, .move (.tmp 15), none⟩, ⟨some 17, .move (.tmp 1), some (16, false)⟩, ⟨some 18, .bin .gtr (.tmp 17) (.cst (.int .i64 8)), some (16, false)⟩, ⟨some 19, .pick (.tmp 16) (.cst (.bool true)) (.tmp 18), none⟩]) (.clr [18, 17, 16, 15, 14, 13, 12, 11, 10, 9, 8, 7, 6])) (.cond (.tmp 19) (.seq (.clr [19, 1, 0]) (.seq (.region [⟨some 4, .move (.cst .nilp), none⟩, ⟨some 5, .move (.cst (.int .i64 2)), none⟩]) .ret)) (.seq (.clr [19]) .skip))) (.seq (.seq (.region [⟨some 20, .move (.tmp 0), none⟩, ⟨some 21, .mkslice 0 [.int .u8 0, .int .u8 0, .int .u8 0, .int .u8 0, .int .u8 0, .int .u8 0, .int .u8 0, .int .u8 0, .int .u8 0, .int .u8 0, .int .u8 0, .int .u8 0, .int .u8 0, .int .u8 0, .int .u8 0, .int .u8 0, .int .u8 0, .int .u8 0, .int .u8 0, .int .u8 0, .int .u8 0, .int .u8 0, .int .u8 0, .int .u8 0, .int .u8 0, .int .u8 0, .int .u8 0, .int .u8 0, .int .u8 0, .int .u8 0, .int .u8 0, .int .u8 0, .int .u8 0, .int .u8 0, .int .u8 0, .int .u8 0, .int .u8 0, .int .u8 0, .int .u8 0, .int .u8 0, .int .u8 0, .int .u8 0, .int .u8 0, .int .u8 0, .int .u8 0, .int .u8 0, .int .u8 0, .int .u8 0, .int .u8 0, .int .u8 0, .int .u8 0, .int .u8 0, .int .u8 0, .int .u8 0, .int .u8 0, .int .u8 0, .int .u8 0, .int .u8 0, .int .u8 0, .int .u8 0, .int .u8 0, .int .u8 0, .int .u8 0, .int .u8 0] 64 64 (.tmp 20) (.tmp 20), none⟩, ⟨some 22, .move (.tmp 1), none⟩, ⟨some 23, .build [.nils, .int .i64 0, .int .i64 0, .int .i64 0, .int .i64 0, .int .i64 0, .int .i64 0, .int .i64 0, .int .i64 0, .int .i64 0, .bool false, .int .i64 0, .bool false, .int .i64 0] [(0, 1, .tmp 21), (9, 1, .tmp 22)], none⟩, ⟨some 24, .box 1 (.tmp 23), none⟩, ⟨some 4, .move (.tmp 24), none⟩, ⟨some 5, .move (.cst (.int .i64 0)), none⟩]) (.clr [24, 23, 22, 21, 20, 1, 0])) .ret)), res := [.tmp 4, .tmp 5] }
def am17 : AFunc := { nargs := 2, nt := 49, sites := 0, mode := .look, body := .seq (.seq (.region [⟨some 4, .move (.cst (.bool false)), none⟩]) (.clr [4])) (.seq (.seq (.seq (.region [⟨some 5, .move (.tmp 0), none⟩, ⟨some 6, .call 48 [.tmp 5], none⟩, ⟨some 7, .un .not (.tmp 6), none⟩, ⟨some 8, .move (.tmp 7), none⟩, ⟨some 9, .move (.tmp 1), some (8, false)⟩, ⟨some 10, .call 48 [.tmp 9], some (8, false)⟩, ⟨some 11, .un .not (.tmp 10), some (8, false)⟩, ⟨some 12, .pick (.tmp 8) (.cst (.bool true)) (.tmp 11), none⟩]) (.clr [11, 10, 9, 8, 7, 6, 5])) (.cond (.tmp 12) (.seq (.clr [12]) (.seq (.seq (.region [⟨some 13, .move (.tmp 0), none⟩, ⟨some 14, .call 48 [.tmp 13], none⟩, ⟨some 15, .move (.tmp 1), none⟩, ⟨some 16, .call 48 [.tmp 15], none⟩, ⟨some 17, .eqc false false [.b] (.tmp 14) (.tmp 16), none⟩, ⟨some 4, .move (.tmp 17), none⟩]) (.clr [17, 16, 15, 14, 13, 1, 0])) .ret)) (.seq (.clr [12]) .skip))) (.seq (.seq (.region [⟨some 18, .move (.tmp 0), none⟩, ⟨some 19, .nilck (.tmp 18), none⟩, ⟨some 20, .faddr 9 (.tmp 19), none⟩, ⟨some 21, .load none (.tmp 20), none⟩, ⟨some 22, .move (.tmp 1), none⟩, ⟨some 23, .nilck (.tmp 22), none⟩, ⟨some 24, .faddr 9 (.tmp 23), none⟩, ⟨some 25, .load none (.tmp 24), none⟩, ⟨some 26, .bin .eql (.tmp 21) (.tmp 25), none⟩, ⟨some 27, .move (.tmp 26), none⟩, ⟨some 28, .move (.tmp 0), some (27, true)⟩, ⟨some 29, .nilck (.tmp 28), some (27, true)⟩, ⟨some 30, .faddr 1 (.tmp 29), some (27, true)⟩, ⟨some 31, .load (some 8) (.tmp 30), some (27, true)⟩, ⟨some 32, .move (.tmp 1), some (27, true)⟩, ⟨some 33, .nilck (.tmp 32), some (27, true)⟩, ⟨some 34, .faddr 1 (.tmp 33), some (27, true)⟩, ⟨some 35, .load (some 8) (.tmp 34), some (27, true)⟩, ⟨some 36, .eqc false true [.i .i64, .i .i64, .i .i64, .i .i64, .i .i64, .i .i64, .i .i64, .i .i64] (.tmp 31) (.tmp 35), some (27, true)⟩, ⟨some 37, .pick (.tmp 27) (.tmp 36) (.cst (.bool false)), none⟩, ⟨some 38, .move (.tmp 37), none⟩, ⟨some 39, .move (.tmp 0), some (38, true)⟩, ⟨some 40, .nilck (.tmp 39), some (38, true)⟩, ⟨some 41, .faddr 0 (.tmp 40), some (38, true)⟩, ⟨some 42, .load none (.tmp 41), some (38, true)⟩, ⟨some 43, .move (.tmp 1), some (38, true)⟩, ⟨some 44, .nilck (.tmp 43), some (38, true)⟩, ⟨some 45, .faddr 0 (.tmp 44), some (38, true)⟩, ⟨some 46, .load none (.tmp 45), some (38, true)⟩, ⟨some 47, .call 49 [.tmp 42, .tmp 46], some (38, true)⟩, ⟨some 48, .pick (.tmp 38) (.tmp 47) (.cst (.bool false)), none⟩, ⟨some 4, .move (.tmp 48), none⟩]) (.clr [48, 47, 46, 45, 44, 43, 42, 41, 40, 39, 38, 37, 36, 35, 34, 33, 32, 31, 30, 29, 28, 27, 26, 25, 24, 23, 22, 21, 20, 19, 18, 1, 0])) .ret)), res := [.tmp 4] }
def am19 : AFunc := { nargs := 2, nt := 21, sites := 0, mode := .look, body := .seq (.seq (.region [⟨some 4, .move (.cst (.int .i64 0)), none⟩, ⟨some 5, .move (.cst (.int .i64 0)), none⟩]) (.clr [5, 4])) (.seq (.block 0 (.seq (.seq (.region [⟨some 7, .move (.tmp 0), none⟩, ⟨some 8, .call 48 [.tmp 7], none⟩, ⟨some 9, .un .not (.tmp 8), none⟩, ⟨some 6, .move (.tmp 9), none⟩]) (.clr [9, 8, 7])) (.cond (.tmp 6) (.seq (.clr [6, 1, 0]) (.seq (.region [⟨some 4, .move (.cst (.int .i64 0)), none⟩, ⟨some 5, .move (.cst (.int .i64 1)), none⟩]) .ret)) (.seq (.clr [6]) (.seq (.seq (.region [⟨some 11, .move (.tmp 0), none⟩, ⟨some 12, .move (.tmp 1), none⟩, ⟨some 13, .call 50 [.tmp 11, .tmp 12], none⟩, ⟨some 14, .un .not (.tmp 13), none⟩, ⟨some 10, .move (.tmp 14), none⟩]) (.clr [14, 13, 12, 11])) (.cond (.tmp 10) (.seq (.clr [10, 1, 0]) (.seq (.region [⟨some 4, .move (.cst (.int .i64 0)), none⟩, ⟨some 5, .move (.cst (.int .i64 2)), none⟩]) .ret)) (.seq (.clr [10]) .skip))))))) (.seq (.seq (.region [⟨some 15, .move (.tmp 0), none⟩, ⟨some 16, .move (.tmp 1), none⟩, ⟨some 17, .nilck (.tmp 15), none⟩, ⟨some 18, .faddr 1 (.tmp 17), none⟩, ⟨some 19, .iaddrA 8 1 (.tmp 18) (.tmp 16), none⟩, ⟨some 20, .load none (.tmp 19), none⟩, ⟨some 4, .move (.tmp 20), none⟩, ⟨some 5, .move (.cst (.int .i64 0)), none⟩]) (.clr [20, 19, 18, 17, 16, 15, 1, 0])) .ret)), res := [.tmp 4, .tmp 5] }
def am20 : AFunc := { nargs := 1, nt := 19, sites := 0, mode := .keep, body := .seq (.seq (.region [⟨some 2, .move (.cst (.bool false)), none⟩]) (.clr [2])) (.seq (.seq (.seq (.region [⟨some 4, .move (.tmp 0), none⟩, ⟨some 5, .call 48 [.tmp 4], none⟩, ⟨some 6, .un .not (.tmp 5), none⟩]) (.clr [5, 4])) (.cond (.tmp 6) (.seq (.clr [6, 0]) (.seq (.region [⟨some 2, .move (.cst (.bool true)), none⟩]) .ret)) (.seq (.clr [6]) .skip))) (.seq (.seq (.region [⟨some 7, .move (.tmp 0), none⟩, ⟨some 8, .nilck (.tmp 7), none⟩, ⟨some 9, .faddr 12 (.tmp 8), none⟩, ⟨some 10, .load none (.tmp 9), none⟩, ⟨some 11, .un .not (.tmp 10), none⟩, ⟨some 3, .move (.tmp 11), none⟩]) (.clr [11, 10, 9, 8, 7])) (.seq (.seq (.region [⟨some 12, .move (.tmp 0), none⟩, ⟨some 13, .move (.tmp 0), none⟩, ⟨some 14, .nilck (.tmp 12), none⟩, ⟨some 15, .faddr 10 (.tmp 14), none⟩, ⟨none, .store 1 (.tmp 15) (.cst (.bool false)), none⟩, ⟨some 16, .nilck (.tmp 13), none⟩, ⟨some 17, .faddr 12 (.tmp 16), none⟩, ⟨none, .store 1 (.tmp 17) (.cst (.bool false)), none⟩]) (.clr [17, 16, 15, 14, 13, 12, 0])) (.seq (.seq (.region [⟨some 18, .move (.tmp 3), none⟩, ⟨some 2, .move (.tmp 18), none⟩]) (.clr [18, 3])) .ret)))), res := [.tmp 2] }
def am21 : AFunc := { nargs := 1, nt := 16, sites := 1, mode := .keep, body := .seq (.seq (.region [⟨some 2, .move (.cst .nilp), none⟩]) (.clr [2])) (.seq (.seq (.seq (.region [⟨some 4, .move (.tmp 0), none⟩, ⟨some 5, .call 48 [.tmp 4], none⟩, ⟨some 6, .un .not (.tmp 5), none⟩]) (.clr [5, 4])) (.cond (.tmp 6) (.seq (.clr [6, 0]) (.seq (.region [⟨some 2, .move (.cst .nilp), none⟩]) .ret)) (.seq (.clr [6]) .skip))) (.seq (.seq (.region [⟨some 7, .move (.tmp 0), none⟩, ⟨some 8, .nilck (.tmp 7), none⟩, ⟨some 9, .load (some 14) (.tmp 8), none⟩, ⟨some 3, .allocz 0 [.nils, .int .i64 0, .int .i64 0, .int .i64 0, .int .i64 0, .int .i64 0, .int .i64 0, .int .i64 0, .int .i64 0, .int .i64 0, .bool false, .int .i64 0, .bool false, .int .i64 0], none⟩, ⟨none, .store 14 (.tmp 3) (.tmp 9), none⟩]) (.clr [9, 8, 7])) (.seq (.seq (.region [⟨some 10, .move (.tmp 0), none⟩, ⟨some 11, .nilck (.tmp 10), none⟩, ⟨some 12, .faddr 0 (.tmp 11), none⟩, ⟨some 13, .load none (.tmp 12), none⟩, ⟨some 14, .call 51 [.tmp 13], none⟩, ⟨some 15, .faddr 0 (.tmp 3), none⟩, ⟨none, .store 1 (.tmp 15) (.tmp 14), none⟩]) (.clr [15, 14, 13, 12, 11, 10, 0])) (.seq (.seq (.region [⟨some 2, .move (.tmp 3), none⟩]) (.clr [3])) .ret)))), res := [.tmp 2] }
def am22 : AFunc := { nargs := 5, nt := 62, sites := 4, mode := .keep, body := .seq (.seq (.region [⟨some 5, .box 0 (.tmp 0), none⟩, ⟨some 8, .box 1 (.tmp 3), none⟩, ⟨some 10, .move (.cst (.int .i64 0)), none⟩]) (.clr [10, 3, 0])) (.seq (.seq (.region [⟨some 15, .load none (.tmp 5), none⟩, ⟨some 16, .call 48 [.tmp 15], none⟩, ⟨some 17, .move (.tmp 16), none⟩, ⟨some 18, .load none (.tmp 8), some (17, true)⟩, ⟨some 19, .bin .geq (.tmp 18) (.cst (.int .i64 0)), some (17, true)⟩, ⟨some 20, .pick (.tmp 17) (.tmp 19) (.cst (.bool false)), none⟩, ⟨some 21, .move (.tmp 20), none⟩, ⟨some 22, .load none (.tmp 8), some (21, true)⟩, ⟨some 23, .load none (.tmp 5), some (21, true)⟩, ⟨some 24, .nilck (.tmp 23), some (21, true)⟩, ⟨some 25, .faddr 0 (.tmp 24), some (21, true)⟩, ⟨some 26, .load none (.tmp 25), some (21, true)⟩, ⟨some 27, .lenS (.tmp 26), some (21, true)⟩, ⟨some 28, .bin .leq (.tmp 22) (.tmp 27), some (21, true)⟩, ⟨some 29, .pick (.tmp 21) (.tmp 28) (.cst (.bool false)), none⟩, ⟨some 30, .move (.tmp 29), none⟩, ⟨some 31, .move (.tmp 4), some (30, true)⟩, ⟨some 32, .lenS (.tmp 31), some (30, true)⟩, ⟨some 33, .load none (.tmp 5), some (30, true)⟩, ⟨some 34, .nilck (.tmp 33), some (30, true)⟩, ⟨some 35, .faddr 0 (.tmp 34), some (30, true)⟩, ⟨some 36, .load none (.tmp 35), some (30, true)⟩, ⟨some 37, .lenS (.tmp 36), some (30, true)⟩, ⟨some 38, .load none (.tmp 8), some (30, true)⟩, ⟨some 39, .bin .sub (.tmp 37) (.tmp 38), some (30, true)⟩, ⟨some 40, .bin .leq (.tmp 32) (.tmp 39), some (30, true)⟩, ⟨some 41, .pick (.tmp 30) (.tmp 40) (.cst (.bool false)), none⟩, ⟨some 11, .move (.tmp 41), none⟩]) (.clr [41, 40, 39, 38, 37, 36, 35, 34, 33, 32, 31, 30, 29, 28, 27, 26, 25, 24, 23, 22, 21, 20, 19, 18, 17, 16, 15])) (.seq (.seq (.seq (.region [⟨some 42, .load none (.tmp 5), none⟩, ⟨some 43, .move (.tmp 1), none⟩, ⟨some 44, .move (.tmp 2), none⟩, ⟨some 45, .move (.tmp 11), none⟩, ⟨some 46, .call 52 [.tmp 42, .tmp 43, .tmp 44, .tmp 45], none⟩, ⟨some 12, .move (.tmp 46), none⟩]) (.clr [46, 45, 44, 43, 42, 11, 2, 1])) (.seq (.seq (.region [⟨some 47, .move (.tmp 12), none⟩, ⟨some 48, .bin .neq (.tmp 47) (.cst (.int .i64 0)), none⟩]) (.clr [47])) (.cond (.tmp 48) (.seq (.clr [48, 8, 5, 4]) (.seq (.seq (.region [⟨some 49, .move (.tmp 12), none⟩, ⟨some 10, .move (.tmp 49), none⟩]) (.clr [49, 12])) .ret)) (.seq (.clr [48, 12]) .skip)))) (.seq .skip (.seq (.seq (.seq (.region [⟨some 50, .move (.tmp 4), none⟩, ⟨some 51, .lenS (.tmp 50), none⟩, ⟨some 52, .move (.cst (.int .i64 0)), none⟩]) (.clr [4])) (.block 0 (.loop [] [] (.seq (.region [⟨some 53, .bin .lss (.tmp 52) (.tmp 51), none⟩]) (.seq (.cond (.tmp 53) (.seq (.clr [53]) .skip) (.seq (.clr [53, 52, 51, 50, 8, 5]) (.exit 0))) (.seq (.block 1 (.seq (.seq (.region [⟨some 54, .move (.tmp 52), none⟩, ⟨some 55, .iaddrS 64 (.tmp 50) (.tmp 52), none⟩, ⟨some 56, .load (some 64) (.tmp 55), none⟩, ⟨some 13, .allocz 2 [.int .i64 0], none⟩, ⟨some 14, .allocz 3 [.int .u8 0, .int .u8 0, .int .u8 0, .int .u8 0, .int .u8 0, .int .u8 0, .int .u8 0, .int .u8 0, .int .u8 0, .int .u8 0, .int .u8 0, .int .u8 0, .int .u8 0, .int .u8 0, .int .u8 0, .int .u8 0, .int .u8 0, .int .u8 0, .int .u8 0, .int .u8 0, .int .u8 0, .int .u8 0, .int .u8 0, .int .u8 0, .int .u8 0, .int .u8 0, .int .u8 0, .int .u8 0, .int .u8 0, .int .u8 0, .int .u8 0, .int .u8 0, .int .u8 0, .int .u8 0, .int .u8 0, .int .u8 0, .int .u8 0, .int .u8 0, .int .u8 0, .int .u8 0, .int .u8 0, .int .u8 0, .int .u8 0, .int .u8 0, .int .u8 0, .int .u8 0, .int .u8 0, .int .u8 0, .int .u8 0, .int .u8 0, .int .u8 0, .int .u8 0, .int .u8 0, .int .u8 0, .int .u8 0, .int .u8 0, .int .u8 0, .int .u8 0, .int .u8 0, .int .u8 0, .int .u8 0, .int .u8 0, .int .u8 0, .int .u8 0], none⟩, ⟨none, .store 1 (.tmp 13) (.tmp 54), none⟩, ⟨none, .store 64 (.tmp 14) (.tmp 56), none⟩]) (.clr [56, 55, 54])) (.seq (.seq (.region [⟨some 57, .load none (.tmp 5), none⟩, ⟨some 58, .mkfunc 54 [] [.tmp 14, .tmp 5, .tmp 8, .tmp 13], none⟩, ⟨some 59, .call 53 [.tmp 57, .tmp 58], none⟩, ⟨some 60, .un .not (.tmp 59), none⟩]) (.clr [59, 58, 57, 14, 13])) (.cond (.tmp 60) (.seq (.clr [60, 52, 51, 50, 8, 5]) (.exit 0)) (.seq (.clr [60]) .skip))))) (.seq (.region [⟨some 61, .bin .add (.tmp 52) (.cst (.int .i64 1)), none⟩, ⟨some 52, .move (.tmp 61), none⟩]) (.clr [61])))))))) (.seq (.region [⟨some 10, .move (.cst (.int .i64 0)), none⟩]) .ret))))), res := [.tmp 10] }
def am23 : AFunc := { nargs := 1, nt := 13, sites := 2, mode := .pure, body := .seq (.region [⟨some 2, .allocz 0 [.int .u8 0, .int .u8 0, .int .u8 0, .int .u8 0, .int .u8 0, .int .u8 0, .int .u8 0, .int .u8 0, .int .u8 0, .int .u8 0, .int .u8 0, .int .u8 0, .int .u8 0, .int .u8 0, .int .u8 0, .int .u8 0, .int .u8 0, .int .u8 0, .int .u8 0, .int .u8 0, .int .u8 0, .int .u8 0, .int .u8 0, .int .u8 0, .int .u8 0, .int .u8 0, .int .u8 0, .int .u8 0, .int .u8 0, .int .u8 0, .int .u8 0, .int .u8 0, .int .u8 0, .int .u8 0, .int .u8 0, .int .u8 0, .int .u8 0, .int .u8 0, .int .u8 0, .int .u8 0, .int .u8 0, .int .u8 0, .int .u8 0, .int .u8 0, .int .u8 0, .int .u8 0, .int .u8 0, .int .u8 0, .int .u8 0, .int .u8 0, .int .u8 0, .int .u8 0, .int .u8 0, .int .u8 0, .int .u8 0, .int .u8 0, .int .u8 0, .int .u8 0, .int .u8 0, .int .u8 0, .int .u8 0, .int .u8 0, .int .u8 0, .int .u8 0], none⟩]) (.seq (.region [⟨some 3, .allocz 1 [.int .u8 0, .int .u8 0, .int .u8 0, .int .u8 0, .int .u8 0, .int .u8 0, .int .u8 0, .int .u8 0, .int .u8 0, .int .u8 0, .int .u8 0, .int .u8 0, .int .u8 0, .int .u8 0, .int .u8 0, .int .u8 0, .int .u8 0, .int .u8 0, .int .u8 0, .int .u8 0, .int .u8 0, .int .u8 0, .int .u8 0, .int .u8 0, .int .u8 0, .int .u8 0, .int .u8 0, .int .u8 0, .int .u8 0, .int .u8 0, .int .u8 0, .int .u8 0, .int .u8 0, .int .u8 0, .int .u8 0, .int .u8 0, .int .u8 0, .int .u8 0, .int .u8 0, .int .u8 0, .int .u8 0, .int .u8 0, .int .u8 0, .int .u8 0, .int .u8 0, .int .u8 0, .int .u8 0, .int .u8 0, .int .u8 0, .int .u8 0, .int .u8 0, .int .u8 0, .int .u8 0, .int .u8 0, .int .u8 0, .int .u8 0, .int .u8 0, .int .u8 0, .int .u8 0, .int .u8 0, .int .u8 0, .int .u8 0, .int .u8 0, .int .u8 0], none⟩]) (.seq (.seq (.region [⟨some 4, .move (.cst (.int .i64 0)), none⟩]) (.block 0 (.loop [] [] (.seq (.seq (.seq (.region [⟨some 5, .move (.tmp 4), none⟩, ⟨some 6, .bin .lss (.tmp 5) (.cst (.int .i64 64)), none⟩]) (.clr [5])) (.cond (.tmp 6) (.seq (.clr [6]) .skip) (.seq (.clr [6, 4, 0]) (.exit 0)))) (.seq (.block 1 (.seq (.region [⟨some 9, .move (.tmp 4), none⟩, ⟨some 10, .move (.tmp 0), none⟩, ⟨some 11, .iaddrA 64 1 (.tmp 3) (.tmp 9), none⟩, ⟨none, .store 1 (.tmp 11) (.tmp 10), none⟩]) (.clr [11, 10, 9]))) (.seq (.region [⟨some 7, .move (.tmp 4), none⟩, ⟨some 8, .bin .add (.tmp 7) (.cst (.int .i64 1)), none⟩, ⟨some 4, .move (.tmp 8), none⟩]) (.clr [8, 7]))))))) (.seq (.seq (.region [⟨some 12, .load (some 64) (.tmp 3), none⟩, ⟨none, .store 64 (.tmp 2) (.tmp 12), none⟩]) (.clr [12, 3])) .ret))), res := [.cell 2 (some 64)] }
def am24 : AFunc := { nargs := 5, nt := 45, sites := 3, mode := .keep, body := .seq (.seq (.region [⟨some 5, .box 0 (.tmp 0), none⟩, ⟨some 8, .box 1 (.tmp 3), none⟩, ⟨some 9, .box 2 (.tmp 4), none⟩, ⟨some 10, .move (.cst (.int .i64 0)), none⟩]) (.clr [10, 4, 3, 0])) (.seq (.seq (.seq (.region [⟨some 12, .load none (.tmp 5), none⟩, ⟨some 13, .move (.tmp 1), none⟩, ⟨some 14, .move (.tmp 2), none⟩, ⟨some 15, .load none (.tmp 5), none⟩, ⟨some 16, .call 48 [.tmp 15], none⟩, ⟨some 17, .move (.tmp 16), none⟩, ⟨some 18, .load none (.tmp 5), some (17, true)⟩, ⟨some 19, .load none (.tmp 8), some (17, true)⟩, ⟨some 20, .call 50 [.tmp 18, .tmp 19], some (17, true)⟩, ⟨some 21, .pick (.tmp 17) (.tmp 20) (.cst (.bool false)), none⟩, ⟨some 22, .move (.tmp 21), none⟩, ⟨some 23, .load none (.tmp 9), some (22, true)⟩, ⟨some 24, .bin .geq (.tmp 23) (.cst (.int .i64 0)), some (22, true)⟩, ⟨some 25, .pick (.tmp 22) (.tmp 24) (.cst (.bool false)), none⟩, ⟨some 26, .move (.tmp 25), none⟩, ⟨some 27, .load none (.tmp 9), some (26, true)⟩, ⟨some 28, .bin .lss (.tmp 27) (.cst (.int .i64 2147483647)), some (26, true)⟩, ⟨some 29, .pick (.tmp 26) (.tmp 28) (.cst (.bool false)), none⟩, ⟨some 30, .call 52 [.tmp 12, .tmp 13, .tmp 14, .tmp 29], none⟩, ⟨some 11, .move (.tmp 30), none⟩]) (.clr [30, 29, 28, 27, 26, 25, 24, 23, 22, 21, 20, 19, 18, 17, 16, 15, 14, 13, 12, 2, 1])) (.seq (.seq (.region [⟨some 31, .move (.tmp 11), none⟩, ⟨some 32, .bin .neq (.tmp 31) (.cst (.int .i64 0)), none⟩]) (.clr [31])) (.cond (.tmp 32) (.seq (.clr [32, 9, 8, 5]) (.seq (.seq (.region [⟨some 33, .move (.tmp 11), none⟩, ⟨some 10, .move (.tmp 33), none⟩]) (.clr [33, 11])) .ret)) (.seq (.clr [32, 11]) .skip)))) (.seq (.seq (.seq (.region [⟨some 34, .load none (.tmp 5), none⟩, ⟨some 35, .load none (.tmp 8), none⟩, ⟨some 36, .nilck (.tmp 34), none⟩, ⟨some 37, .faddr 1 (.tmp 36), none⟩, ⟨some 38, .iaddrA 8 1 (.tmp 37) (.tmp 35), none⟩, ⟨some 39, .load none (.tmp 38), none⟩, ⟨some 40, .load none (.tmp 9), none⟩, ⟨some 41, .bin .leq (.tmp 39) (.tmp 40), none⟩]) (.clr [40, 39, 38, 37, 36, 35, 34])) (.cond (.tmp 41) (.seq (.clr [41]) (.seq (.region [⟨some 42, .load none (.tmp 5), none⟩, ⟨some 43, .mkfunc 55 [] [.tmp 9, .tmp 5, .tmp 8], none⟩, ⟨some 44, .call 53 [.tmp 42, .tmp 43], none⟩]) (.clr [44, 43, 42, 9, 8, 5]))) (.seq (.clr [41, 9, 8, 5]) .skip))) (.seq (.region [⟨some 10, .move (.cst (.int .i64 0)), none⟩]) .ret))), res := [.tmp 10] }
def am25 : AFunc := { nargs := 2, nt := 27, sites := 0, mode := .keep, body := .seq (.seq (.region [⟨some 4, .move (.cst (.int .i64 0)), none⟩]) (.clr [4])) (.seq (.block 0 (.seq (.seq (.region [⟨some 6, .move (.tmp 0), none⟩, ⟨some 7, .call 48 [.tmp 6], none⟩, ⟨some 8, .un .not (.tmp 7), none⟩, ⟨some 5, .move (.tmp 8), none⟩]) (.clr [8, 7, 6])) (.cond (.tmp 5) (.seq (.clr [5, 1, 0]) (.seq (.region [⟨some 4, .move (.cst (.int .i64 1)), none⟩]) .ret)) (.seq (.clr [5]) (.seq (.seq (.region [⟨some 10, .move (.tmp 1), none⟩, ⟨some 11, .bin .lss (.tmp 10) (.cst (.int .i64 0)), none⟩, ⟨some 9, .move (.tmp 11), none⟩]) (.clr [11, 10])) (.cond (.tmp 9) (.seq (.clr [9, 1, 0]) (.seq (.region [⟨some 4, .move (.cst (.int .i64 2)), none⟩]) .ret)) (.seq (.clr [9]) (.seq (.seq (.region [⟨some 13, .move (.tmp 0), none⟩, ⟨some 14, .nilck (.tmp 13), none⟩, ⟨some 15, .faddr 10 (.tmp 14), none⟩, ⟨some 16, .load none (.tmp 15), none⟩, ⟨some 12, .move (.tmp 16), none⟩]) (.clr [16, 15, 14, 13])) (.cond (.tmp 12) (.seq (.clr [12, 1, 0]) (.seq (.region [⟨some 4, .move (.cst (.int .i64 9)), none⟩]) .ret)) (.seq (.clr [12]) .skip)))))))))) (.seq (.seq (.region [⟨some 17, .move (.tmp 0), none⟩, ⟨some 18, .move (.tmp 0), none⟩, ⟨some 19, .move (.tmp 0), none⟩, ⟨some 20, .move (.tmp 1), none⟩, ⟨some 21, .nilck (.tmp 17), none⟩, ⟨some 22, .faddr 10 (.tmp 21), none⟩, ⟨none, .store 1 (.tmp 22) (.cst (.bool true)), none⟩, ⟨some 23, .nilck (.tmp 18), none⟩, ⟨some 24, .faddr 11 (.tmp 23), none⟩, ⟨none, .store 1 (.tmp 24) (.tmp 20), none⟩, ⟨some 25, .nilck (.tmp 19), none⟩, ⟨some 26, .faddr 12 (.tmp 25), none⟩, ⟨none, .store 1 (.tmp 26) (.cst (.bool false)), none⟩]) (.clr [26, 25, 24, 23, 22, 21, 20, 19, 18, 17, 1, 0])) (.seq (.region [⟨some 4, .move (.cst (.int .i64 0)), none⟩]) .ret))), res := [.tmp 4] }
def am26 : AFunc := { nargs := 2, nt := 31, sites := 1, mode := .look, body := .seq (.seq (.region [⟨some 4, .allocz 0 [.int .u8 0, .int .u8 0, .int .u8 0, .int .u8 0, .int .u8 0, .int .u8 0, .int .u8 0, .int .u8 0, .int .u8 0, .int .u8 0, .int .u8 0, .int .u8 0, .int .u8 0, .int .u8 0, .int .u8 0, .int .u8 0, .int .u8 0, .int .u8 0, .int .u8 0, .int .u8 0, .int .u8 0, .int .u8 0, .int .u8 0, .int .u8 0, .int .u8 0, .int .u8 0, .int .u8 0, .int .u8 0, .int .u8 0, .int .u8 0, .int .u8 0, .int .u8 0, .int .u8 0, .int .u8 0, .int .u8 0, .int .u8 0, .int .u8 0, .int .u8 0, .int .u8 0, .int .u8 0, .int .u8 0, .int .u8 0, .int .u8 0, .int .u8 0, .int .u8 0, .int .u8 0, .int .u8 0, .int .u8 0, .int .u8 0, .int .u8 0, .int .u8 0, .int .u8 0, .int .u8 0, .int .u8 0, .int .u8 0, .int .u8 0, .int .u8 0, .int .u8 0, .int .u8 0, .int .u8 0, .int .u8 0, .int .u8 0, .int .u8 0, .int .u8 0], none⟩, ⟨some 5, .move (.cst (.int .i64 0)), none⟩]) (.clr [5])) (.seq (.block 0 (.seq (.seq (.region [⟨some 7, .move (.tmp 0), none⟩, ⟨some 8, .call 48 [.tmp 7], none⟩, ⟨some 9, .un .not (.tmp 8), none⟩, ⟨some 6, .move (.tmp 9), none⟩]) (.clr [9, 8, 7])) (.cond (.tmp 6) (.seq (.clr [6, 1, 0]) (.seq (.seq (.region [⟨some 10, .build [.int .u8 0, .int .u8 0, .int .u8 0, .int .u8 0, .int .u8 0, .int .u8 0, .int .u8 0, .int .u8 0, .int .u8 0, .int .u8 0, .int .u8 0, .int .u8 0, .int .u8 0, .int .u8 0, .int .u8 0, .int .u8 0, .int .u8 0, .int .u8 0, .int .u8 0, .int .u8 0, .int .u8 0, .int .u8 0, .int .u8 0, .int .u8 0, .int .u8 0, .int .u8 0, .int .u8 0, .int .u8 0, .int .u8 0, .int .u8 0, .int .u8 0, .int .u8 0, .int .u8 0, .int .u8 0, .int .u8 0, .int .u8 0, .int .u8 0, .int .u8 0, .int .u8 0, .int .u8 0, .int .u8 0, .int .u8 0, .int .u8 0, .int .u8 0, .int .u8 0, .int .u8 0, .int .u8 0, .int .u8 0, .int .u8 0, .int .u8 0, .int .u8 0, .int .u8 0, .int .u8 0, .int .u8 0, .int .u8 0, .int .u8 0, .int .u8 0, .int .u8 0, .int .u8 0, .int .u8 0, .int .u8 0, .int .u8 0, .int .u8 0, .int .u8 0] [], none⟩, ⟨none, .store 64 (.tmp 4) (.tmp 10), none⟩, ⟨some 5, .move (.cst (.int .i64 1)), none⟩]) (.clr [10])) .ret)) (.seq (.clr [6]) (.seq (.seq (.region [⟨some 12, .move (.tmp 1), none⟩, ⟨some 13, .bin .lss (.tmp 12) (.cst (.int .i64 0)), none⟩, ⟨some 14, .move (.tmp 13), none⟩, ⟨some 15, .move (.tmp 1), some (14, false)⟩, ⟨some 16, .move (.tmp 0), some (14, false)⟩, ⟨some 17, .nilck (.tmp 16), some (14, false)⟩, ⟨some 18, .faddr 0 (.tmp 17), some (14, false)⟩, ⟨some 19, .load none (.tmp 18), some (14, false)⟩, ⟨some 20, .lenS (.tmp 19), some (14, false)⟩, ⟨some 21, .bin .geq (.tmp 15) (.tmp 20), some (14, false)⟩, ⟨some 22, .pick (.tmp 14) (.cst (.bool true)) (.tmp 21), none⟩, ⟨some 11, .move (.tmp 22), none⟩]) (.clr [22, 21, 20, 19, 18, 17, 16, 15, 14, 13, 12])) (.cond (.tmp 11) (.seq (.clr [11, 1, 0]) (.seq (.seq (.region [⟨some 23, .build [.int .u8 0, .int .u8 0, .int .u8 0, .int .u8 0, .int .u8 0, .int .u8 0, .int .u8 0, .int .u8 0, .int .u8 0, .int .u8 0, .int .u8 0, .int .u8 0, .int .u8 0, .int .u8 0, .int .u8 0, .int .u8 0, .int .u8 0, .int .u8 0, .int .u8 0, .int .u8 0, .int .u8 0, .int .u8 0, .int .u8 0, .int .u8 0, .int .u8 0, .int .u8 0, .int .u8 0, .int .u8 0, .int .u8 0, .int .u8 0, .int .u8 0, .int .u8 0, .int .u8 0, .int .u8 0, .int .u8 0, .int .u8 0, .int .u8 0, .int .u8 0, .int .u8 0, .int .u8 0, .int .u8 0, .int .u8 0, .int .u8 0, .int .u8 0, .int .u8 0, .int .u8 0, .int .u8 0, .int .u8 0, .int .u8 0, .int .u8 0, .int .u8 0, .int .u8 0, .int .u8 0, .int .u8 0, .int .u8 0, .int .u8 0, .int .u8 0, .int .u8 0, .int .u8 0, .int .u8 0, .int .u8 0, .int .u8 0, .int .u8 0, .int .u8 0] [], none⟩, ⟨none, .store 64 (.tmp 4) (.tmp 23), none⟩, ⟨some 5, .move (.cst (.int .i64 2)), none⟩]) (.clr [23])) .ret)) (.seq (.clr [11]) .skip))))))) (.seq (.seq (.region [⟨some 24, .move (.tmp 0), none⟩, ⟨some 25, .nilck (.tmp 24), none⟩, ⟨some 26, .faddr 0 (.tmp 25), none⟩, ⟨some 27, .load none (.tmp 26), none⟩, ⟨some 28, .move (.tmp 1), none⟩, ⟨some 29, .iaddrS 64 (.tmp 27) (.tmp 28), none⟩, ⟨some 30, .load (some 64) (.tmp 29), none⟩, ⟨none, .store 64 (.tmp 4) (.tmp 30), none⟩, ⟨some 5, .move (.cst (.int .i64 0)), none⟩]) (.clr [30, 29, 28, 27, 26, 25, 24, 1, 0])) .ret)), res := [.cell 4 (some 64), .tmp 5] }
def am27 : AFunc := { nargs := 2, nt := 26, sites := 2, mode := .keep, body := .seq (.seq (.region [⟨some 2, .box 0 (.tmp 0), none⟩, ⟨some 3, .box 1 (.tmp 1), none⟩, ⟨some 4, .move (.cst (.int .i64 0)), none⟩, ⟨some 5, .move (.cst (.int .i64 0)), none⟩]) (.clr [5, 4, 1, 0])) (.seq (.seq (.region [⟨some 9, .load none (.tmp 2), none⟩, ⟨some 10, .load none (.tmp 3), none⟩, ⟨some 11, .call 19 [.tmp 9, .tmp 10], none⟩, ⟨some 8, .move (.tmp 11), none⟩, ⟨some 12, .extract (.tmp 8) 0, none⟩, ⟨some 13, .extract (.tmp 8) 1, none⟩, ⟨some 6, .move (.tmp 12), none⟩, ⟨some 7, .move (.tmp 13), none⟩]) (.clr [13, 12, 11, 10, 9, 8])) (.seq (.block 0 (.seq (.seq (.region [⟨some 15, .move (.tmp 7), none⟩, ⟨some 16, .bin .neq (.tmp 15) (.cst (.int .i64 0)), none⟩, ⟨some 14, .move (.tmp 16), none⟩]) (.clr [16, 15])) (.cond (.tmp 14) (.seq (.clr [14, 6, 3, 2]) (.seq (.seq (.region [⟨some 17, .move (.tmp 7), none⟩, ⟨some 4, .move (.cst (.int .i64 0)), none⟩, ⟨some 5, .move (.tmp 17), none⟩]) (.clr [17, 7])) .ret)) (.seq (.clr [14, 7]) (.seq (.seq (.region [⟨some 19, .move (.tmp 6), none⟩, ⟨some 20, .bin .eql (.tmp 19) (.cst (.int .i64 2147483647)), none⟩, ⟨some 18, .move (.tmp 20), none⟩]) (.clr [20, 19])) (.cond (.tmp 18) (.seq (.clr [18, 6, 3, 2]) (.seq (.region [⟨some 4, .move (.cst (.int .i64 0)), none⟩, ⟨some 5, .move (.cst (.int .i64 5)), none⟩]) .ret)) (.seq (.clr [18]) .skip))))))) (.seq (.seq (.region [⟨some 21, .load none (.tmp 2), none⟩, ⟨some 22, .mkfunc 56 [] [.tmp 2, .tmp 3], none⟩, ⟨some 23, .call 53 [.tmp 21, .tmp 22], none⟩]) (.clr [23, 22, 21, 3, 2])) (.seq (.seq (.region [⟨some 24, .move (.tmp 6), none⟩, ⟨some 25, .bin .add (.tmp 24) (.cst (.int .i64 1)), none⟩, ⟨some 4, .move (.tmp 25), none⟩, ⟨some 5, .move (.cst (.int .i64 0)), none⟩]) (.clr [25, 24, 6])) .ret)))), res := [.tmp 4, .tmp 5] }
def am28 : AFunc := { nargs := 1, nt := 116, sites := 3, mode := .keep, body := .seq (.region [⟨some 2, .allocz 0 [.bool false], none⟩]) (.seq (.seq (.region [⟨some 13, .move (.tmp 0), none⟩, ⟨some 14, .call 19 [.tmp 13, .cst (.int .i64 0)], none⟩, ⟨some 12, .move (.tmp 14), none⟩, ⟨some 15, .extract (.tmp 12) 0, none⟩, ⟨some 16, .extract (.tmp 12) 1, none⟩, ⟨some 3, .move (.tmp 15), none⟩, ⟨some 4, .move (.tmp 16), none⟩]) (.clr [16, 15, 14, 13, 12, 3])) (.seq (.seq (.region [⟨some 18, .move (.tmp 0), none⟩, ⟨some 19, .call 26 [.tmp 18, .cst (.int .i64 0)], none⟩, ⟨some 17, .move (.tmp 19), none⟩, ⟨some 20, .extract (.tmp 17) 0, none⟩, ⟨some 21, .extract (.tmp 17) 1, none⟩, ⟨some 5, .allocz 1 [.int .u8 0, .int .u8 0, .int .u8 0, .int .u8 0, .int .u8 0, .int .u8 0, .int .u8 0, .int .u8 0, .int .u8 0, .int .u8 0, .int .u8 0, .int .u8 0, .int .u8 0, .int .u8 0, .int .u8 0, .int .u8 0, .int .u8 0, .int .u8 0, .int .u8 0, .int .u8 0, .int .u8 0, .int .u8 0, .int .u8 0, .int .u8 0, .int .u8 0, .int .u8 0, .int .u8 0, .int .u8 0, .int .u8 0, .int .u8 0, .int .u8 0, .int .u8 0, .int .u8 0, .int .u8 0, .int .u8 0, .int .u8 0, .int .u8 0, .int .u8 0, .int .u8 0, .int .u8 0, .int .u8 0, .int .u8 0, .int .u8 0, .int .u8 0, .int .u8 0, .int .u8 0, .int .u8 0, .int .u8 0, .int .u8 0, .int .u8 0, .int .u8 0, .int .u8 0, .int .u8 0, .int .u8 0, .int .u8 0, .int .u8 0, .int .u8 0, .int .u8 0, .int .u8 0, .int .u8 0, .int .u8 0, .int .u8 0, .int .u8 0, .int .u8 0], none⟩, ⟨none, .store 64 (.tmp 5) (.tmp 20), none⟩, ⟨some 6, .move (.tmp 21), none⟩]) (.clr [21, 20, 19, 18, 17, 5])) (.seq (.seq (.region [⟨some 23, .move (.tmp 0), none⟩, ⟨some 24, .build [.int .u8 0, .int .u8 0, .int .u8 0, .int .u8 0, .int .u8 0, .int .u8 0, .int .u8 0, .int .u8 0, .int .u8 0, .int .u8 0, .int .u8 0, .int .u8 0, .int .u8 0, .int .u8 0, .int .u8 0, .int .u8 0, .int .u8 0, .int .u8 0, .int .u8 0, .int .u8 0, .int .u8 0, .int .u8 0, .int .u8 0, .int .u8 0, .int .u8 0, .int .u8 0, .int .u8 0, .int .u8 0, .int .u8 0, .int .u8 0, .int .u8 0, .int .u8 0, .int .u8 0, .int .u8 0, .int .u8 0, .int .u8 0, .int .u8 0, .int .u8 0, .int .u8 0, .int .u8 0, .int .u8 0, .int .u8 0, .int .u8 0, .int .u8 0, .int .u8 0, .int .u8 0, .int .u8 0, .int .u8 0, .int .u8 0, .int .u8 0, .int .u8 0, .int .u8 0, .int .u8 0, .int .u8 0, .int .u8 0, .int .u8 0, .int .u8 0, .int .u8 0, .int .u8 0, .int .u8 0, .int .u8 0, .int .u8 0, .int .u8 0, .int .u8 0] [], none⟩, ⟨some 25, .build [.int .u8 0, .int .u8 0, .int .u8 0, .int .u8 0, .int .u8 0, .int .u8 0, .int .u8 0, .int .u8 0, .int .u8 0, .int .u8 0, .int .u8 0, .int .u8 0, .int .u8 0, .int .u8 0, .int .u8 0, .int .u8 0, .int .u8 0, .int .u8 0, .int .u8 0, .int .u8 0, .int .u8 0, .int .u8 0, .int .u8 0, .int .u8 0, .int .u8 0, .int .u8 0, .int .u8 0, .int .u8 0, .int .u8 0, .int .u8 0, .int .u8 0, .int .u8 0, .int .u8 0, .int .u8 0, .int .u8 0, .int .u8 0, .int .u8 0, .int .u8 0, .int .u8 0, .int .u8 0, .int .u8 0, .int .u8 0, .int .u8 0, .int .u8 0, .int .u8 0, .int .u8 0, .int .u8 0, .int .u8 0, .int .u8 0, .int .u8 0, .int .u8 0, .int .u8 0, .int .u8 0, .int .u8 0, .int .u8 0, .int .u8 0, .int .u8 0, .int .u8 0, .int .u8 0, .int .u8 0, .int .u8 0, .int .u8 0, .int .u8 0, .int .u8 0] [], none⟩, ⟨some 26, .call 29 [.tmp 23, .cst (.int .i64 0), .cst (.int .i64 0), .cst (.int .i64 0), .tmp 24, .tmp 25], none⟩, ⟨some 22, .move (.tmp 26), none⟩, ⟨some 27, .extract (.tmp 22) 0, none⟩, ⟨some 28, .extract (.tmp 22) 1, none⟩, ⟨some 7, .move (.tmp 27), none⟩, ⟨some 8, .move (.tmp 28), none⟩]) (.clr [28, 27, 26, 25, 24, 23, 22, 7])) (.seq (.seq (.region [⟨some 30, .move (.tmp 0), none⟩, ⟨some 31, .call 27 [.tmp 30, .cst (.int .i64 0)], none⟩, ⟨some 29, .move (.tmp 31), none⟩, ⟨some 32, .extract (.tmp 29) 0, none⟩, ⟨some 33, .extract (.tmp 29) 1, none⟩, ⟨some 9, .move (.tmp 32), none⟩, ⟨some 10, .move (.tmp 33), none⟩]) (.clr [33, 32, 31, 30, 29, 9])) (.seq (.seq (.region [⟨some 34, .move (.tmp 0), none⟩, ⟨some 35, .call 41 [.tmp 34], none⟩, ⟨some 11, .move (.tmp 35), none⟩]) (.clr [35, 34])) (.seq (.seq (.seq (.region [⟨some 36, .move (.tmp 11), none⟩, ⟨some 37, .eqnil false (NK.f) (.tmp 36), none⟩]) (.clr [36])) (.cond (.tmp 37) (.seq (.clr [37, 11, 10, 8, 6, 4, 0]) (.seq (.region [⟨none, .store 1 (.tmp 2) (.cst (.bool false)), none⟩]) .ret)) (.seq (.clr [37]) .skip))) (.seq (.seq (.seq (.region [⟨some 38, .move (.tmp 11), none⟩]) (.clr [11])) (.block 0 (.rangeF (.tmp 38) [39, 40] .skip (.block 1 (.seq (.seq (.region [⟨none, .store 1 (.tmp 2) (.cst (.bool false)), none⟩]) (.clr [2])) .ret)) 28 0 2))) (.seq (.seq (.region [⟨some 41, .move (.tmp 4), none⟩, ⟨some 42, .call 11 [.tmp 41], none⟩, ⟨some 43, .bin .eql (.tmp 42) (.cst (.int .i64 1)), none⟩, ⟨some 44, .move (.tmp 43), none⟩, ⟨some 45, .move (.tmp 6), some (44, true)⟩, ⟨some 46, .call 11 [.tmp 45], some (44, true)⟩, ⟨some 47, .bin .eql (.tmp 46) (.cst (.int .i64 1)), some (44, true)⟩, ⟨some 48, .pick (.tmp 44) (.tmp 47) (.cst (.bool false)), none⟩, ⟨some 49, .move (.tmp 48), none⟩, ⟨some 50, .move (.tmp 8), some (49, true)⟩, ⟨some 51, .call 11 [.tmp 50], some (49, true)⟩, ⟨some 52, .bin .eql (.tmp 51) (.cst (.int .i64 1)), some (49, true)⟩, ⟨some 53, .pick (.tmp 49) (.tmp 52) (.cst (.bool false)), none⟩, ⟨some 54, .move (.tmp 53), none⟩, ⟨some 55, .move (.tmp 10), some (54, true)⟩, ⟨some 56, .call 11 [.tmp 55], some (54, true)⟩, ⟨some 57, .bin .eql (.tmp 56) (.cst (.int .i64 1)), some (54, true)⟩, ⟨some 58, .pick (.tmp 54) (.tmp 57) (.cst (.bool false)), none⟩, ⟨some 59, .move (.tmp 58), none⟩, ⟨some 60, .move (.tmp 0), some (59, true)⟩, ⟨some 61, .call 22 [.tmp 60, .cst (.int .i64 0), .cst (.int .i64 0), .cst (.int .i64 0), .cst .nils], some (59, true)⟩, ⟨some 62, .call 11 [.tmp 61], some (59, true)⟩, ⟨some 63, .bin .eql (.tmp 62) (.cst (.int .i64 1)), some (59, true)⟩, ⟨some 64, .pick (.tmp 59) (.tmp 63) (.cst (.bool false)), none⟩, ⟨some 65, .move (.tmp 64), none⟩, ⟨some 66, .move (.tmp 0), some (65, true)⟩, ⟨some 67, .call 24 [.tmp 66, .cst (.int .i64 0), .cst (.int .i64 0), .cst (.int .i64 0), .cst (.int .i64 0)], some (65, true)⟩, ⟨some 68, .call 11 [.tmp 67], some (65, true)⟩, ⟨some 69, .bin .eql (.tmp 68) (.cst (.int .i64 1)), some (65, true)⟩, ⟨some 70, .pick (.tmp 65) (.tmp 69) (.cst (.bool false)), none⟩, ⟨some 71, .move (.tmp 70), none⟩, ⟨some 72, .move (.tmp 0), some (71, true)⟩, ⟨some 73, .call 25 [.tmp 72, .cst (.int .i64 1)], some (71, true)⟩, ⟨some 74, .call 11 [.tmp 73], some (71, true)⟩, ⟨some 75, .bin .eql (.tmp 74) (.cst (.int .i64 1)), some (71, true)⟩, ⟨some 76, .pick (.tmp 71) (.tmp 75) (.cst (.bool false)), none⟩, ⟨some 77, .move (.tmp 76), none⟩, ⟨some 78, .move (.tmp 0), some (77, true)⟩, ⟨some 79, .call 20 [.tmp 78], some (77, true)⟩, ⟨some 80, .pick (.tmp 77) (.tmp 79) (.cst (.bool false)), none⟩, ⟨some 81, .move (.tmp 80), none⟩, ⟨some 82, .move (.tmp 0), some (81, true)⟩, ⟨some 83, .call 38 [.tmp 82, .cst (.int .i64 0), .cst (.int .i64 0)], some (81, true)⟩, ⟨some 84, .un .not (.tmp 83), some (81, true)⟩, ⟨some 85, .pick (.tmp 81) (.tmp 84) (.cst (.bool false)), none⟩, ⟨some 86, .move (.tmp 85), none⟩, ⟨some 87, .move (.tmp 0), some (86, true)⟩, ⟨some 88, .call 32 [.tmp 87], some (86, true)⟩, ⟨some 89, .bin .eql (.tmp 88) (.cst (.int .i64 0)), some (86, true)⟩, ⟨some 90, .pick (.tmp 86) (.tmp 89) (.cst (.bool false)), none⟩, ⟨some 91, .move (.tmp 90), none⟩, ⟨some 92, .move (.tmp 0), some (91, true)⟩, ⟨some 93, .call 33 [.tmp 92], some (91, true)⟩, ⟨some 94, .bin .eql (.tmp 93) (.cst (.int .i64 0)), some (91, true)⟩, ⟨some 95, .pick (.tmp 91) (.tmp 94) (.cst (.bool false)), none⟩, ⟨some 96, .move (.tmp 95), none⟩, ⟨some 97, .move (.tmp 0), some (96, true)⟩, ⟨some 98, .call 34 [.tmp 97], some (96, true)⟩, ⟨some 99, .bin .eql (.tmp 98) (.cst (.int .i64 0)), some (96, true)⟩, ⟨some 100, .pick (.tmp 96) (.tmp 99) (.cst (.bool false)), none⟩, ⟨some 101, .move (.tmp 100), none⟩, ⟨some 102, .move (.tmp 0), some (101, true)⟩, ⟨some 103, .call 35 [.tmp 102], some (101, true)⟩, ⟨some 104, .lenS (.tmp 103), some (101, true)⟩, ⟨some 105, .bin .eql (.tmp 104) (.cst (.int .i64 0)), some (101, true)⟩, ⟨some 106, .pick (.tmp 101) (.tmp 105) (.cst (.bool false)), none⟩, ⟨some 107, .move (.tmp 106), none⟩, ⟨some 108, .move (.tmp 0), some (107, true)⟩, ⟨some 109, .call 21 [.tmp 108], some (107, true)⟩, ⟨some 110, .eqnil false (NK.p) (.tmp 109), some (107, true)⟩, ⟨some 111, .pick (.tmp 107) (.tmp 110) (.cst (.bool false)), none⟩, ⟨some 112, .move (.tmp 111), none⟩, ⟨some 113, .move (.tmp 0), some (112, true)⟩, ⟨some 114, .call 17 [.tmp 113, .cst .nilp], some (112, true)⟩, ⟨some 115, .pick (.tmp 112) (.tmp 114) (.cst (.bool false)), none⟩, ⟨none, .store 1 (.tmp 2) (.tmp 115), none⟩]) (.clr [115, 114, 113, 112, 111, 110, 109, 108, 107, 106, 105, 104, 103, 102, 101, 100, 99, 98, 97, 96, 95, 94, 93, 92, 91, 90, 89, 88, 87, 86, 85, 84, 83, 82, 81, 80, 79, 78, 77, 76, 75, 74, 73, 72, 71, 70, 69, 68, 67, 66, 65, 64, 63, 62, 61, 60, 59, 58, 57, 56, 55, 54, 53, 52, 51, 50, 49, 48, 47, 46, 45, 44, 43, 42, 41, 10, 8, 6, 4, 0])) .ret)))))))), res := [.cell 2 none] }
def am29 : AFunc := { nargs := 6, nt := 42, sites := 4, mode := .keep, body := .seq (.seq (.region [⟨some 6, .box 0 (.tmp 0), none⟩, ⟨some 9, .box 1 (.tmp 3), none⟩, ⟨some 10, .box 2 (.tmp 4), none⟩, ⟨some 11, .box 3 (.tmp 5), none⟩, ⟨some 12, .move (.cst (.bool false)), none⟩, ⟨some 13, .move (.cst (.int .i64 0)), none⟩]) (.clr [13, 12, 5, 4, 3, 0])) (.seq (.seq (.seq (.region [⟨some 15, .load none (.tmp 6), none⟩, ⟨some 16, .move (.tmp 1), none⟩, ⟨some 17, .move (.tmp 2), none⟩, ⟨some 18, .load none (.tmp 9), none⟩, ⟨some 19, .bin .geq (.tmp 18) (.cst (.int .i64 0)), none⟩, ⟨some 20, .move (.tmp 19), none⟩, ⟨some 21, .load none (.tmp 9), some (20, true)⟩, ⟨some 22, .load none (.tmp 6), some (20, true)⟩, ⟨some 23, .call 32 [.tmp 22], some (20, true)⟩, ⟨some 24, .bin .lss (.tmp 21) (.tmp 23), some (20, true)⟩, ⟨some 25, .pick (.tmp 20) (.tmp 24) (.cst (.bool false)), none⟩, ⟨some 26, .call 52 [.tmp 15, .tmp 16, .tmp 17, .tmp 25], none⟩, ⟨some 14, .move (.tmp 26), none⟩]) (.clr [26, 25, 24, 23, 22, 21, 20, 19, 18, 17, 16, 15, 2, 1])) (.seq (.seq (.region [⟨some 27, .move (.tmp 14), none⟩, ⟨some 28, .bin .neq (.tmp 27) (.cst (.int .i64 0)), none⟩]) (.clr [27])) (.cond (.tmp 28) (.seq (.clr [28, 11, 10, 9, 6]) (.seq (.seq (.region [⟨some 29, .move (.tmp 14), none⟩, ⟨some 12, .move (.cst (.bool false)), none⟩, ⟨some 13, .move (.tmp 29), none⟩]) (.clr [29, 14])) .ret)) (.seq (.clr [28, 14]) .skip)))) (.seq (.seq (.seq (.region [⟨some 30, .load none (.tmp 6), none⟩, ⟨some 31, .nilck (.tmp 30), none⟩, ⟨some 32, .faddr 0 (.tmp 31), none⟩, ⟨some 33, .load none (.tmp 32), none⟩, ⟨some 34, .load none (.tmp 9), none⟩, ⟨some 35, .iaddrS 64 (.tmp 33) (.tmp 34), none⟩, ⟨some 36, .load (some 64) (.tmp 35), none⟩, ⟨some 37, .load (some 64) (.tmp 10), none⟩, ⟨some 38, .eqc true true [.i .u8, .i .u8, .i .u8, .i .u8, .i .u8, .i .u8, .i .u8, .i .u8, .i .u8, .i .u8, .i .u8, .i .u8, .i .u8, .i .u8, .i .u8, .i .u8, .i .u8, .i .u8, .i .u8, .i .u8, .i .u8, .i .u8, .i .u8, .i .u8, .i .u8, .i .u8, .i .u8, .i .u8, .i .u8, .i .u8, .i .u8, .i .u8, .i .u8, .i .u8, .i .u8, .i .u8, .i .u8, .i .u8, .i .u8, .i .u8, .i .u8, .i .u8, .i .u8, .i .u8, .i .u8, .i .u8, .i .u8, .i .u8, .i .u8, .i .u8, .i .u8, .i .u8, .i .u8, .i .u8, .i .u8, .i .u8, .i .u8, .i .u8, .i .u8, .i .u8, .i .u8, .i .u8, .i .u8, .i .u8] (.tmp 36) (.tmp 37), none⟩]) (.clr [37, 36, 35, 34, 33, 32, 31, 30, 10])) (.cond (.tmp 38) (.seq (.clr [38, 11, 9, 6]) (.seq (.region [⟨some 12, .move (.cst (.bool false)), none⟩, ⟨some 13, .move (.cst (.int .i64 0)), none⟩]) .ret)) (.seq (.clr [38]) .skip))) (.seq (.seq (.region [⟨some 39, .load none (.tmp 6), none⟩, ⟨some 40, .mkfunc 57 [] [.tmp 11, .tmp 6, .tmp 9], none⟩, ⟨some 41, .call 53 [.tmp 39, .tmp 40], none⟩]) (.clr [41, 40, 39, 11, 9, 6])) (.seq (.region [⟨some 12, .move (.cst (.bool true)), none⟩, ⟨some 13, .move (.cst (.int .i64 0)), none⟩]) .ret)))), res := [.tmp 12, .tmp 13] }
def am30 : AFunc := { nargs := 2, nt := 9, sites := 0, mode := .keep, body := .seq (.seq (.region [⟨some 4, .move (.cst (.bool false)), none⟩]) (.clr [4])) (.seq (.seq (.region [⟨some 5, .move (.tmp 0), none⟩, ⟨some 6, .move (.tmp 1), none⟩, ⟨some 7, .call 58 [.tmp 5, .tmp 6], none⟩, ⟨some 8, .bin .geq (.tmp 7) (.cst (.int .i64 0)), none⟩, ⟨some 4, .move (.tmp 8), none⟩]) (.clr [8, 7, 6, 5, 1, 0])) .ret), res := [.tmp 4] }
def am31 : AFunc := { nargs := 1, nt := 9, sites := 0, mode := .pure, body := .seq (.seq (.region [⟨some 2, .move (.cst (.bool false)), none⟩]) (.clr [2])) (.seq (.seq (.region [⟨some 3, .move (.tmp 0), none⟩, ⟨some 4, .bin .lss (.tmp 3) (.cst (.int .i64 0)), none⟩, ⟨some 5, .move (.tmp 4), none⟩, ⟨some 6, .move (.tmp 0), some (5, false)⟩, ⟨some 7, .bin .gtr (.tmp 6) (.cst (.int .i64 2147483647)), some (5, false)⟩, ⟨some 8, .pick (.tmp 5) (.cst (.bool true)) (.tmp 7), none⟩, ⟨some 2, .move (.tmp 8), none⟩]) (.clr [8, 7, 6, 5, 4, 3, 0])) .ret), res := [.tmp 2] }
def am32 : AFunc := { nargs := 1, nt := 11, sites := 0, mode := .look, body := .seq (.seq (.region [⟨some 2, .move (.cst (.int .i64 0)), none⟩]) (.clr [2])) (.seq (.seq (.seq (.region [⟨some 3, .move (.tmp 0), none⟩, ⟨some 4, .call 48 [.tmp 3], none⟩, ⟨some 5, .un .not (.tmp 4), none⟩]) (.clr [4, 3])) (.cond (.tmp 5) (.seq (.clr [5, 0]) (.seq (.region [⟨some 2, .move (.cst (.int .i64 0)), none⟩]) .ret)) (.seq (.clr [5]) .skip))) (.seq (.seq (.region [⟨some 6, .move (.tmp 0), none⟩, ⟨some 7, .nilck (.tmp 6), none⟩, ⟨some 8, .faddr 0 (.tmp 7), none⟩, ⟨some 9, .load none (.tmp 8), none⟩, ⟨some 10, .lenS (.tmp 9), none⟩, ⟨some 2, .move (.tmp 10), none⟩]) (.clr [10, 9, 8, 7, 6, 0])) .ret)), res := [.tmp 2] }
def am33 : AFunc := { nargs := 1, nt := 10, sites := 0, mode := .look, body := .seq (.seq (.region [⟨some 2, .move (.cst (.int .i64 0)), none⟩]) (.clr [2])) (.seq (.seq (.seq (.region [⟨some 3, .move (.tmp 0), none⟩, ⟨some 4, .call 48 [.tmp 3], none⟩, ⟨some 5, .un .not (.tmp 4), none⟩]) (.clr [4, 3])) (.cond (.tmp 5) (.seq (.clr [5, 0]) (.seq (.region [⟨some 2, .move (.cst (.int .i64 0)), none⟩]) .ret)) (.seq (.clr [5]) .skip))) (.seq (.seq (.region [⟨some 6, .move (.tmp 0), none⟩, ⟨some 7, .nilck (.tmp 6), none⟩, ⟨some 8, .faddr 9 (.tmp 7), none⟩, ⟨some 9, .load none (.tmp 8), none⟩, ⟨some 2, .move (.tmp 9), none⟩]) (.clr [9, 8, 7, 6, 0])) .ret)), res := [.tmp 2] }
def am34 : AFunc := { nargs := 1, nt := 10, sites := 0, mode := .look, body := .seq (.seq (.region [⟨some 2, .move (.cst (.int .i64 0)), none⟩]) (.clr [2])) (.seq (.seq (.seq (.region [⟨some 3, .move (.tmp 0), none⟩, ⟨some 4, .call 48 [.tmp 3], none⟩, ⟨some 5, .un .not (.tmp 4), none⟩]) (.clr [4, 3])) (.cond (.tmp 5) (.seq (.clr [5, 0]) (.seq (.region [⟨some 2, .move (.cst (.int .i64 0)), none⟩]) .ret)) (.seq (.clr [5]) .skip))) (.seq (.seq (.region [⟨some 6, .move (.tmp 0), none⟩, ⟨some 7, .nilck (.tmp 6), none⟩, ⟨some 8, .faddr 13 (.tmp 7), none⟩, ⟨some 9, .load none (.tmp 8), none⟩, ⟨some 2, .move (.tmp 9), none⟩]) (.clr [9, 8, 7, 6, 0])) .ret)), res := [.tmp 2] }
def am35 : AFunc := { nargs := 1, nt := 14, sites := 4, mode := .keep, body := .seq (.region [⟨some 2, .move (.cst .nils), none⟩]) (.seq (.region [⟨some 3, .allocz 0 [.nils], none⟩]) (.seq (.seq (.seq (.region [⟨some 6, .move (.tmp 0), none⟩, ⟨some 7, .call 41 [.tmp 6], none⟩]) (.clr [6, 0])) (.block 0 (.rangeF (.tmp 7) [8, 9] (.seq (.region [⟨some 5, .allocz 1 [.int .u8 0, .int .u8 0, .int .u8 0, .int .u8 0, .int .u8 0, .int .u8 0, .int .u8 0, .int .u8 0, .int .u8 0, .int .u8 0, .int .u8 0, .int .u8 0, .int .u8 0, .int .u8 0, .int .u8 0, .int .u8 0, .int .u8 0, .int .u8 0, .int .u8 0, .int .u8 0, .int .u8 0, .int .u8 0, .int .u8 0, .int .u8 0, .int .u8 0, .int .u8 0, .int .u8 0, .int .u8 0, .int .u8 0, .int .u8 0, .int .u8 0, .int .u8 0, .int .u8 0, .int .u8 0, .int .u8 0, .int .u8 0, .int .u8 0, .int .u8 0, .int .u8 0, .int .u8 0, .int .u8 0, .int .u8 0, .int .u8 0, .int .u8 0, .int .u8 0, .int .u8 0, .int .u8 0, .int .u8 0, .int .u8 0, .int .u8 0, .int .u8 0, .int .u8 0, .int .u8 0, .int .u8 0, .int .u8 0, .int .u8 0, .int .u8 0, .int .u8 0, .int .u8 0, .int .u8 0, .int .u8 0, .int .u8 0, .int .u8 0, .int .u8 0], none⟩, ⟨none, .store 64 (.tmp 5) (.tmp 9), none⟩]) (.clr [9])) (.block 1 (.seq (.region [⟨some 10, .load none (.tmp 3), none⟩, ⟨some 11, .slA 64 1 (.tmp 5) none none none, none⟩, ⟨some 12, .append 2 1 1 (.tmp 10) (.tmp 11), none⟩, ⟨none, .store 1 (.tmp 3) (.tmp 12), none⟩]) (.clr [12, 11, 10, 5, 3]))) 35 0 3))) (.seq (.seq (.region [⟨some 13, .load none (.tmp 3), none⟩, ⟨some 2, .move (.tmp 13), none⟩]) (.clr [13, 3])) .ret))), res := [.tmp 2] }
def am38 : AFunc := { nargs := 3, nt := 24, sites := 0, mode := .look, body := .seq (.seq (.region [⟨some 6, .move (.cst (.bool false)), none⟩]) (.clr [6])) (.seq (.seq (.region [⟨some 7, .move (.tmp 0), none⟩, ⟨some 8, .call 48 [.tmp 7], none⟩, ⟨some 9, .move (.tmp 8), none⟩, ⟨some 10, .move (.tmp 0), some (9, true)⟩, ⟨some 11, .move (.tmp 1), some (9, true)⟩, ⟨some 12, .call 50 [.tmp 10, .tmp 11], some (9, true)⟩, ⟨some 13, .pick (.tmp 9) (.tmp 12) (.cst (.bool false)), none⟩, ⟨some 14, .move (.tmp 13), none⟩, ⟨some 15, .move (.tmp 2), some (14, true)⟩, ⟨some 16, .move (.tmp 0), some (14, true)⟩, ⟨some 17, .move (.tmp 1), some (14, true)⟩, ⟨some 18, .nilck (.tmp 16), some (14, true)⟩, ⟨some 19, .faddr 1 (.tmp 18), some (14, true)⟩, ⟨some 20, .iaddrA 8 1 (.tmp 19) (.tmp 17), some (14, true)⟩, ⟨some 21, .load none (.tmp 20), some (14, true)⟩, ⟨some 22, .bin .lss (.tmp 15) (.tmp 21), some (14, true)⟩, ⟨some 23, .pick (.tmp 14) (.tmp 22) (.cst (.bool false)), none⟩, ⟨some 6, .move (.tmp 23), none⟩]) (.clr [23, 22, 21, 20, 19, 18, 17, 16, 15, 14, 13, 12, 11, 10, 9, 8, 7, 2, 1, 0])) .ret), res := [.tmp 6] }
def am41 : AFunc := { nargs := 1, nt := 4, sites := 1, mode := .keep, body := .seq (.seq (.region [⟨some 1, .box 0 (.tmp 0), none⟩, ⟨some 2, .move (.cst .nilf), none⟩]) (.clr [2, 0])) (.seq (.seq (.region [⟨some 3, .mkfunc 59 [] [.tmp 1], none⟩, ⟨some 2, .move (.tmp 3), none⟩]) (.clr [3, 1])) .ret), res := [.tmp 2] }
def am48 : AFunc := { nargs := 1, nt := 12, sites := 0, mode := .look, body := .seq (.seq (.region [⟨some 2, .move (.cst (.bool false)), none⟩]) (.clr [2])) (.seq (.seq (.region [⟨some 3, .move (.tmp 0), none⟩, ⟨some 4, .eqnil true (NK.p) (.tmp 3), none⟩, ⟨some 5, .move (.tmp 4), none⟩, ⟨some 6, .move (.tmp 0), some (5, true)⟩, ⟨some 7, .nilck (.tmp 6), some (5, true)⟩, ⟨some 8, .faddr 9 (.tmp 7), some (5, true)⟩, ⟨some 9, .load none (.tmp 8), some (5, true)⟩, ⟨some 10, .bin .gtr (.tmp 9) (.cst (.int .i64 0)), some (5, true)⟩, ⟨some 11, .pick (.tmp 5) (.tmp 10) (.cst (.bool false)), none⟩, ⟨some 2, .move (.tmp 11), none⟩]) (.clr [11, 10, 9, 8, 7, 6, 5, 4, 3, 0])) .ret), res := [.tmp 2] }
def am49 : AFunc := { nargs := 2, nt := 26, sites := 0, mode := .look, body := .seq (.seq (.region [⟨some 4, .move (.cst (.bool false)), none⟩]) (.clr [4])) (.seq (.seq (.seq (.region [⟨some 6, .move (.tmp 0), none⟩, ⟨some 7, .lenS (.tmp 6), none⟩, ⟨some 8, .move (.tmp 1), none⟩, ⟨some 9, .lenS (.tmp 8), none⟩, ⟨some 10, .bin .neq (.tmp 7) (.tmp 9), none⟩]) (.clr [9, 8, 7, 6])) (.cond (.tmp 10) (.seq (.clr [10, 1, 0]) (.seq (.region [⟨some 4, .move (.cst (.bool false)), none⟩]) .ret)) (.seq (.clr [10]) .skip))) (.seq (.seq (.seq (.region [⟨some 11, .move (.tmp 0), none⟩, ⟨some 12, .lenS (.tmp 11), none⟩, ⟨some 13, .move (.cst (.int .i64 0)), none⟩]) (.clr [11])) (.block 0 (.loop [] [] (.seq (.region [⟨some 14, .bin .lss (.tmp 13) (.tmp 12), none⟩]) (.seq (.cond (.tmp 14) (.seq (.clr [14]) .skip) (.seq (.clr [14, 13, 12, 1, 0]) (.exit 0))) (.seq (.block 1 (.seq (.seq (.region [⟨some 15, .move (.tmp 13), none⟩, ⟨some 5, .move (.tmp 15), none⟩]) (.clr [15])) (.seq (.seq (.region [⟨some 16, .move (.tmp 0), none⟩, ⟨some 17, .move (.tmp 5), none⟩, ⟨some 18, .iaddrS 64 (.tmp 16) (.tmp 17), none⟩, ⟨some 19, .load (some 64) (.tmp 18), none⟩, ⟨some 20, .move (.tmp 1), none⟩, ⟨some 21, .move (.tmp 5), none⟩, ⟨some 22, .iaddrS 64 (.tmp 20) (.tmp 21), none⟩, ⟨some 23, .load (some 64) (.tmp 22), none⟩, ⟨some 24, .eqc true true [.i .u8, .i .u8, .i .u8, .i .u8, .i .u8, .i .u8, .i .u8, .i .u8, .i .u8, .i .u8, .i .u8, .i .u8, .i .u8, .i .u8, .i .u8, .i .u8, .i .u8, .i .u8, .i .u8, .i .u8, .i .u8, .i .u8, .i .u8, .i .u8, .i .u8, .i .u8, .i .u8, .i .u8, .i .u8, .i .u8, .i .u8, .i .u8, .i .u8, .i .u8, .i .u8, .i .u8, .i .u8, .i .u8, .i .u8, .i .u8, .i .u8, .i .u8, .i .u8, .i .u8, .i .u8, .i .u8, .i .u8, .i .u8, .i .u8, .i .u8, .i .u8, .i .u8, .i .u8, .i .u8, .i .u8, .i .u8, .i .u8, .i .u8, .i .u8, .i .u8, .i .u8, .i .u8, .i .u8, .i .u8] (.tmp 19) (.tmp 23), none⟩]) (.clr [23, 22, 21, 20, 19, 18, 17, 16, 5])) (.cond (.tmp 24) (.seq (.clr [24, 13, 12, 1, 0]) (.seq (.region [⟨some 4, .move (.cst (.bool false)), none⟩]) .ret)) (.seq (.clr [24]) .skip))))) (.seq (.region [⟨some 25, .bin .add (.tmp 13) (.cst (.int .i64 1)), none⟩, ⟨some 13, .move (.tmp 25), none⟩]) (.clr [25])))))))) (.seq (.region [⟨some 4, .move (.cst (.bool true)), none⟩]) .ret))), res := [.tmp 4] }
def am50 : AFunc := { nargs := 2, nt := 15, sites := 0, mode := .look, body := .seq (.seq (.region [⟨some 4, .move (.cst (.bool false)), none⟩]) (.clr [4])) (.seq (.seq (.region [⟨some 5, .move (.tmp 1), none⟩, ⟨some 6, .bin .geq (.tmp 5) (.cst (.int .i64 0)), none⟩, ⟨some 7, .move (.tmp 6), none⟩, ⟨some 8, .move (.tmp 1), some (7, true)⟩, ⟨some 9, .move (.tmp 0), some (7, true)⟩, ⟨some 10, .nilck (.tmp 9), some (7, true)⟩, ⟨some 11, .faddr 9 (.tmp 10), some (7, true)⟩, ⟨some 12, .load none (.tmp 11), some (7, true)⟩, ⟨some 13, .bin .lss (.tmp 8) (.tmp 12), some (7, true)⟩, ⟨some 14, .pick (.tmp 7) (.tmp 13) (.cst (.bool false)), none⟩, ⟨some 4, .move (.tmp 14), none⟩]) (.clr [14, 13, 12, 11, 10, 9, 8, 7, 6, 5, 1, 0])) .ret), res := [.tmp 4] }
def am51 : AFunc := { nargs := 1, nt := 8, sites := 1, mode := .auto, body := .seq (.seq (.region [⟨some 2, .move (.cst .nils), none⟩]) (.clr [2])) (.seq (.seq (.seq (.region [⟨some 3, .move (.tmp 0), none⟩, ⟨some 4, .eqnil false (NK.s) (.tmp 3), none⟩]) (.clr [3])) (.cond (.tmp 4) (.seq (.clr [4, 0]) (.seq (.region [⟨some 2, .move (.cst .nils), none⟩]) .ret)) (.seq (.clr [4]) .skip))) (.seq (.seq (.region [⟨some 5, .bslice [] 0 64 [], none⟩, ⟨some 6, .move (.tmp 0), none⟩, ⟨some 7, .append 0 64 64 (.tmp 5) (.tmp 6), none⟩, ⟨some 2, .move (.tmp 7), none⟩]) (.clr [7, 6, 5, 0])) .ret)), res := [.tmp 2] }
def am52 : AFunc := { nargs := 4, nt := 45, sites := 0, mode := .look, body := .seq (.seq (.region [⟨some 8, .move (.cst (.int .i64 0)), none⟩]) (.clr [8])) (.seq (.block 0 (.seq (.seq (.region [⟨some 10, .move (.tmp 0), none⟩, ⟨some 11, .call 48 [.tmp 10], none⟩, ⟨some 12, .un .not (.tmp 11), none⟩, ⟨some 9, .move (.tmp 12), none⟩]) (.clr [12, 11, 10])) (.cond (.tmp 9) (.seq (.clr [9, 3, 2, 1, 0]) (.seq (.region [⟨some 8, .move (.cst (.int .i64 1)), none⟩]) .ret)) (.seq (.clr [9]) (.seq (.seq (.region [⟨some 14, .move (.tmp 0), none⟩, ⟨some 15, .move (.tmp 1), none⟩, ⟨some 16, .call 50 [.tmp 14, .tmp 15], none⟩, ⟨some 17, .un .not (.tmp 16), none⟩, ⟨some 18, .move (.tmp 17), none⟩, ⟨some 19, .move (.tmp 2), some (18, false)⟩, ⟨some 20, .bin .lss (.tmp 19) (.cst (.int .i64 0)), some (18, false)⟩, ⟨some 21, .pick (.tmp 18) (.cst (.bool true)) (.tmp 20), none⟩, ⟨some 22, .move (.tmp 21), none⟩, ⟨some 23, .move (.tmp 2), some (22, false)⟩, ⟨some 24, .move (.tmp 0), some (22, false)⟩, ⟨some 25, .move (.tmp 1), some (22, false)⟩, ⟨some 26, .nilck (.tmp 24), some (22, false)⟩, ⟨some 27, .faddr 1 (.tmp 26), some (22, false)⟩, ⟨some 28, .iaddrA 8 1 (.tmp 27) (.tmp 25), some (22, false)⟩, ⟨some 29, .load none (.tmp 28), some (22, false)⟩, ⟨some 30, .bin .gtr (.tmp 23) (.tmp 29), some (22, false)⟩, ⟨some 31, .pick (.tmp 22) (.cst (.bool true)) (.tmp 30), none⟩, ⟨some 32, .move (.tmp 31), none⟩, ⟨some 33, .move (.tmp 3), some (32, false)⟩, ⟨some 34, .un .not (.tmp 33), some (32, false)⟩, ⟨some 35, .pick (.tmp 32) (.cst (.bool true)) (.tmp 34), none⟩, ⟨some 13, .move (.tmp 35), none⟩]) (.clr [35, 34, 33, 32, 31, 30, 29, 28, 27, 26, 25, 24, 23, 22, 21, 20, 19, 18, 17, 16, 15, 14, 3])) (.cond (.tmp 13) (.seq (.clr [13, 2, 1, 0]) (.seq (.region [⟨some 8, .move (.cst (.int .i64 2)), none⟩]) .ret)) (.seq (.clr [13]) (.seq (.seq (.region [⟨some 37, .move (.tmp 2), none⟩, ⟨some 38, .move (.tmp 0), none⟩, ⟨some 39, .move (.tmp 1), none⟩, ⟨some 40, .nilck (.tmp 38), none⟩, ⟨some 41, .faddr 1 (.tmp 40), none⟩, ⟨some 42, .iaddrA 8 1 (.tmp 41) (.tmp 39), none⟩, ⟨some 43, .load none (.tmp 42), none⟩, ⟨some 44, .bin .lss (.tmp 37) (.tmp 43), none⟩, ⟨some 36, .move (.tmp 44), none⟩]) (.clr [44, 43, 42, 41, 40, 39, 38, 37, 2, 1, 0])) (.cond (.tmp 36) (.seq (.clr [36]) (.seq (.region [⟨some 8, .move (.cst (.int .i64 8)), none⟩]) .ret)) (.seq (.clr [36]) .skip)))))))))) (.seq (.region [⟨some 8, .move (.cst (.int .i64 0)), none⟩]) .ret)), res := [.tmp 8] }
def am53 : AFunc := { nargs := 2, nt := 39, sites := 0, mode := .keep, body := .seq (.seq (.region [⟨some 4, .move (.cst (.bool false)), none⟩]) (.clr [4])) (.seq (.seq (.seq (.region [⟨some 5, .move (.tmp 0), none⟩, ⟨some 6, .nilck (.tmp 5), none⟩, ⟨some 7, .faddr 10 (.tmp 6), none⟩, ⟨some 8, .load none (.tmp 7), none⟩, ⟨some 9, .move (.tmp 8), none⟩, ⟨some 10, .move (.tmp 0), some (9, true)⟩, ⟨some 11, .nilck (.tmp 10), some (9, true)⟩, ⟨some 12, .faddr 11 (.tmp 11), some (9, true)⟩, ⟨some 13, .load none (.tmp 12), some (9, true)⟩, ⟨some 14, .bin .eql (.tmp 13) (.cst (.int .i64 0)), some (9, true)⟩, ⟨some 15, .pick (.tmp 9) (.tmp 14) (.cst (.bool false)), none⟩]) (.clr [14, 13, 12, 11, 10, 9, 8, 7, 6, 5])) (.cond (.tmp 15) (.seq (.clr [15, 1]) (.seq (.seq (.region [⟨some 16, .move (.tmp 0), none⟩, ⟨some 17, .nilck (.tmp 16), none⟩, ⟨some 18, .faddr 12 (.tmp 17), none⟩, ⟨none, .store 1 (.tmp 18) (.cst (.bool true)), none⟩]) (.clr [18, 17, 16, 0])) (.seq (.region [⟨some 4, .move (.cst (.bool false)), none⟩]) .ret))) (.seq (.clr [15]) .skip))) (.seq (.seq (.seq (.region [⟨some 19, .move (.tmp 0), none⟩, ⟨some 20, .nilck (.tmp 19), none⟩, ⟨some 21, .faddr 10 (.tmp 20), none⟩, ⟨some 22, .load none (.tmp 21), none⟩]) (.clr [21, 20, 19])) (.cond (.tmp 22) (.seq (.clr [22]) (.seq (.region [⟨some 23, .move (.tmp 0), none⟩, ⟨some 24, .nilck (.tmp 23), none⟩, ⟨some 25, .faddr 11 (.tmp 24), none⟩, ⟨some 26, .load none (.tmp 25), none⟩, ⟨some 27, .bin .sub (.tmp 26) (.cst (.int .i64 1)), none⟩, ⟨some 28, .nilck (.tmp 23), none⟩, ⟨some 29, .faddr 11 (.tmp 28), none⟩, ⟨none, .store 1 (.tmp 29) (.tmp 27), none⟩]) (.clr [29, 28, 27, 26, 25, 24, 23]))) (.seq (.clr [22]) .skip))) (.seq (.seq (.region [⟨some 30, .move (.tmp 0), none⟩, ⟨some 31, .nilck (.tmp 30), none⟩, ⟨some 32, .faddr 13 (.tmp 31), none⟩, ⟨some 33, .load none (.tmp 32), none⟩, ⟨some 34, .bin .add (.tmp 33) (.cst (.int .i64 1)), none⟩, ⟨some 35, .nilck (.tmp 30), none⟩, ⟨some 36, .faddr 13 (.tmp 35), none⟩, ⟨none, .store 1 (.tmp 36) (.tmp 34), none⟩]) (.clr [36, 35, 34, 33, 32, 31, 30, 0])) (.seq (.seq (.region [⟨some 37, .move (.tmp 1), none⟩, ⟨some 38, .callv (.tmp 37) [], none⟩]) (.clr [38, 37, 1])) (.seq (.region [⟨some 4, .move (.cst (.bool true)), none⟩]) .ret))))), res := [.tmp 4] }
def am54 : AFunc := { nargs := 4, nt := 13, sites := 0, mode := .keep, body := .seq (.region [⟨some 4, .load none (.tmp 1), none⟩, ⟨some 5, .nilck (.tmp 4), none⟩, ⟨some 6, .faddr 0 (.tmp 5), none⟩, ⟨some 7, .load none (.tmp 6), none⟩, ⟨some 8, .load none (.tmp 2), none⟩, ⟨some 9, .load none (.tmp 3), none⟩, ⟨some 10, .bin .add (.tmp 8) (.tmp 9), none⟩, ⟨some 11, .load (some 64) (.tmp 0), none⟩, ⟨some 12, .iaddrS 64 (.tmp 7) (.tmp 10), none⟩, ⟨none, .store 64 (.tmp 12) (.tmp 11), none⟩]) (.clr [12, 11, 10, 9, 8, 7, 6, 5, 4, 3, 2, 1, 0]), res := [] }
def am55 : AFunc := { nargs := 3, nt := 10, sites := 0, mode := .keep, body := .seq (.region [⟨some 3, .load none (.tmp 1), none⟩, ⟨some 4, .load none (.tmp 2), none⟩, ⟨some 5, .load none (.tmp 0), none⟩, ⟨some 6, .bin .add (.tmp 5) (.cst (.int .i64 1)), none⟩, ⟨some 7, .nilck (.tmp 3), none⟩, ⟨some 8, .faddr 1 (.tmp 7), none⟩, ⟨some 9, .iaddrA 8 1 (.tmp 8) (.tmp 4), none⟩, ⟨none, .store 1 (.tmp 9) (.tmp 6), none⟩]) (.clr [9, 8, 7, 6, 5, 4, 3, 2, 1, 0]), res := [] }
def am56 : AFunc := { nargs := 2, nt := 12, sites := 0, mode := .keep, body := .seq (.region [⟨some 2, .load none (.tmp 0), none⟩, ⟨some 3, .load none (.tmp 1), none⟩, ⟨some 4, .nilck (.tmp 2), none⟩, ⟨some 5, .faddr 1 (.tmp 4), none⟩, ⟨some 6, .iaddrA 8 1 (.tmp 5) (.tmp 3), none⟩, ⟨some 7, .load none (.tmp 6), none⟩, ⟨some 8, .bin .add (.tmp 7) (.cst (.int .i64 1)), none⟩, ⟨some 9, .nilck (.tmp 2), none⟩, ⟨some 10, .faddr 1 (.tmp 9), none⟩, ⟨some 11, .iaddrA 8 1 (.tmp 10) (.tmp 3), none⟩, ⟨none, .store 1 (.tmp 11) (.tmp 8), none⟩]) (.clr [11, 10, 9, 8, 7, 6, 5, 4, 3, 2, 1, 0]), res := [] }
def am57 : AFunc := { nargs := 3, nt := 10, sites := 0, mode := .keep, body := .seq (.region [⟨some 3, .load none (.tmp 1), none⟩, ⟨some 4, .nilck (.tmp 3), none⟩, ⟨some 5, .faddr 0 (.tmp 4), none⟩, ⟨some 6, .load none (.tmp 5), none⟩, ⟨some 7, .load none (.tmp 2), none⟩, ⟨some 8, .load (some 64) (.tmp 0), none⟩, ⟨some 9, .iaddrS 64 (.tmp 6) (.tmp 7), none⟩, ⟨none, .store 64 (.tmp 9) (.tmp 8), none⟩]) (.clr [9, 8, 7, 6, 5, 4, 3, 2, 1, 0]), res := [] }
def am58 : AFunc := { nargs := 2, nt := 19, sites := 0, mode := .keep, body := .seq (.seq (.region [⟨some 4, .move (.cst (.int .i64 0)), none⟩]) (.clr [4])) (.seq (.seq (.seq (.region [⟨some 6, .move (.tmp 0), none⟩, ⟨some 7, .lenS (.tmp 6), none⟩, ⟨some 8, .move (.cst (.int .i64 0)), none⟩]) (.clr [6])) (.block 0 (.loop [] [] (.seq (.region [⟨some 9, .bin .lss (.tmp 8) (.tmp 7), none⟩]) (.seq (.cond (.tmp 9) (.seq (.clr [9]) .skip) (.seq (.clr [9, 8, 7, 1, 0]) (.exit 0))) (.seq (.block 1 (.seq (.seq (.region [⟨some 10, .move (.tmp 8), none⟩, ⟨some 5, .move (.tmp 10), none⟩]) (.clr [10])) (.seq (.seq (.region [⟨some 11, .move (.tmp 1), none⟩, ⟨some 12, .move (.tmp 0), none⟩, ⟨some 13, .move (.tmp 5), none⟩, ⟨some 14, .iaddrS 1 (.tmp 12) (.tmp 13), none⟩, ⟨some 15, .load none (.tmp 14), none⟩, ⟨some 16, .callv (.tmp 11) [.tmp 15], none⟩]) (.clr [15, 14, 13, 12, 11])) (.cond (.tmp 16) (.seq (.clr [16, 8, 7, 1, 0]) (.seq (.seq (.region [⟨some 17, .move (.tmp 5), none⟩, ⟨some 4, .move (.tmp 17), none⟩]) (.clr [17, 5])) .ret)) (.seq (.clr [16, 5]) .skip))))) (.seq (.region [⟨some 18, .bin .add (.tmp 8) (.cst (.int .i64 1)), none⟩, ⟨some 8, .move (.tmp 18), none⟩]) (.clr [18])))))))) (.seq (.region [⟨some 4, .move (.cst (.int .i64 (-1))), none⟩]) .ret)), res := [.tmp 4] }
def am59 : AFunc := { nargs := 2, nt := 21, sites := 0, mode := .keep, body := .seq (.seq (.region [⟨some 4, .load none (.tmp 1), none⟩, ⟨some 5, .call 32 [.tmp 4], none⟩, ⟨some 6, .move (.cst (.int .i64 0)), none⟩]) (.clr [4])) (.block 0 (.loop [] [] (.seq (.region [⟨some 7, .bin .lss (.tmp 6) (.tmp 5), none⟩]) (.seq (.cond (.tmp 7) (.seq (.clr [7]) .skip) (.seq (.clr [7, 6, 5, 1, 0]) (.exit 0))) (.seq (.block 1 (.seq (.seq (.region [⟨some 8, .move (.tmp 6), none⟩, ⟨some 3, .move (.tmp 8), none⟩]) (.clr [8])) (.seq (.seq (.region [⟨some 9, .move (.tmp 0), none⟩, ⟨some 10, .move (.tmp 3), none⟩, ⟨some 11, .load none (.tmp 1), none⟩, ⟨some 12, .nilck (.tmp 11), none⟩, ⟨some 13, .faddr 0 (.tmp 12), none⟩, ⟨some 14, .load none (.tmp 13), none⟩, ⟨some 15, .move (.tmp 3), none⟩, ⟨some 16, .iaddrS 64 (.tmp 14) (.tmp 15), none⟩, ⟨some 17, .load (some 64) (.tmp 16), none⟩, ⟨some 18, .callv (.tmp 9) [.tmp 10, .tmp 17], none⟩, ⟨some 19, .un .not (.tmp 18), none⟩]) (.clr [18, 17, 16, 15, 14, 13, 12, 11, 10, 9, 3])) (.cond (.tmp 19) (.seq (.clr [19, 6, 5, 1, 0]) .ret) (.seq (.clr [19]) .skip))))) (.seq (.region [⟨some 20, .bin .add (.tmp 6) (.cst (.int .i64 1)), none⟩, ⟨some 6, .move (.tmp 20), none⟩]) (.clr [20]))))))), res := [] }
def am : AProg := [none, none, none, none, none, none, none, some am7, some am8, some am9, none, some am11, none, none, none, some am15, none, some am17, none, some am19, some am20, some am21, some am22, some am23, some am24, some am25, some am26, some am27, some am28, some am29, some am30, some am31, some am32, some am33, some am34, some am35, none, none, some am38, none, none, some am41, none, none, none, none, none, none, some am48, some am49, some am50, some am51, some am52, some am53, some am54, some am55, some am56, some am57, some am58, some am59]
theorem at7 : am[7]? = some (some am7) := rfl
theorem pm8 : pureOf am 8 = .pure := rfl
theorem at9 : am[9]? = some (some am9) := rfl
theorem at11 : am[11]? = some (some am11) := rfl
theorem pm11 : pureOf am 11 = .pure := rfl
theorem at15 : am[15]? = some (some am15) := rfl
theorem at17 : am[17]? = some (some am17) := rfl
theorem pm17 : pureOf am 17 = .look := rfl
theorem at19 : am[19]? = some (some am19) := rfl
theorem at20 : am[20]? = some (some am20) := rfl
theorem pm20 : pureOf am 20 = .keep := rfl
theorem at21 : am[21]? = some (some am21) := rfl
theorem pm21 : pureOf am 21 = .keep := rfl
theorem at22 : am[22]? = some (some am22) := rfl
theorem pm22 : pureOf am 22 = .keep := rfl
theorem at24 : am[24]? = some (some am24) := rfl
theorem pm24 : pureOf am 24 = .keep := rfl
theorem at25 : am[25]? = some (some am25) := rfl
theorem pm25 : pureOf am 25 = .keep := rfl
theorem at26 : am[26]? = some (some am26) := rfl
theorem at27 : am[27]? = some (some am27) := rfl
theorem at28 : am[28]? = some (some am28) := rfl
theorem pm28 : pureOf am 28 = .keep := rfl
theorem at29 : am[29]? = some (some am29) := rfl
theorem at30 : am[30]? = some (some am30) := rfl
theorem pm30 : pureOf am 30 = .keep := rfl
theorem at31 : am[31]? = some (some am31) := rfl
theorem at32 : am[32]? = some (some am32) := rfl
theorem pm32 : pureOf am 32 = .look := rfl
theorem at33 : am[33]? = some (some am33) := rfl
theorem pm33 : pureOf am 33 = .look := rfl
theorem at34 : am[34]? = some (some am34) := rfl
theorem pm34 : pureOf am 34 = .look := rfl
theorem at35 : am[35]? = some (some am35) := rfl
theorem pm35 : pureOf am 35 = .keep := rfl
theorem at38 : am[38]? = some (some am38) := rfl
theorem pm38 : pureOf am 38 = .look := rfl
theorem at41 : am[41]? = some (some am41) := rfl
theorem at48 : am[48]? = some (some am48) := rfl
theorem pm48 : pureOf am 48 = .look := rfl
theorem pm49 : pureOf am 49 = .look := rfl
theorem at50 : am[50]? = some (some am50) := rfl
theorem pm50 : pureOf am 50 = .look := rfl
theorem at52 : am[52]? = some (some am52) := rfl
theorem at53 : am[53]? = some (some am53) := rfl
theorem at54 : am[54]? = some (some am54) := rfl
theorem at55 : am[55]? = some (some am55) := rfl
theorem at56 : am[56]? = some (some am56) := rfl
theorem at58 : am[58]? = some (some am58) := rfl
theorem at59 : am[59]? = some (some am59) := rfl
end Go.Am.T


set_option linter.unusedVariables false
set_option linter.unusedSimpArgs false
namespace Go.Am
theorem keepOnly_in {R : List Nat} {h : Heap} {o : Nat} (ho : o ∈ R) : (keepOnly R h)[o]? = h[o]? := by
  rw [keepOnly_get]
  have : R.contains o = true := by simpa using ho
  simp only [this, ↓reduceIte]
  cases h[o]? <;> rfl
end Go.Am


set_option linter.unusedVariables false
set_option linter.unusedSimpArgs false
namespace Go.Am
end Go.Am


set_option linter.unusedVariables false
set_option linter.unusedSimpArgs false
namespace Go.Am
abbrev Sl := List (Nat × V)
def getB : Sl → Nat → V
  | [], _ => .junk
  | (j, v) :: l, i => match Nat.beq i j with | true => v | false => getB l i
def insB (i : Nat) (x : V) : Sl → Sl
  | [] => [(i, x)]
  | (j, v) :: l => match Nat.beq i j with | true => (i, x) :: l | false => match Nat.blt i j with | true => (i, x) :: (j, v) :: l | false => (j, v) :: insB i x l
def delB (i : Nat) : Sl → Sl
  | [] => []
  | (j, v) :: l => match Nat.beq i j with | true => delB i l | false => (j, v) :: delB i l
def delsB : List Nat → Sl → Sl
  | [], l => l
  | i :: is, l => delsB is (delB i l)
theorem getB_eq : ∀ (l : Sl) (i : Nat), getB l i = get l i
  | [], _ => rfl
  | (j, v) :: l, i => by
    simp only [getB, get]
    cases h : Nat.beq i j with
    | true => rw [if_pos (Nat.eq_of_beq_eq_true h)]
    | false => rw [if_neg (Nat.ne_of_beq_eq_false h), getB_eq l]
theorem insB_eq (i : Nat) (x : V) : ∀ (l : Sl), insB i x l = ins i x l
  | [] => rfl
  | (j, v) :: l => by
    simp only [insB, ins]
    cases h : Nat.beq i j with
    | true => rw [if_pos (Nat.eq_of_beq_eq_true h)]
    | false =>
      rw [if_neg (Nat.ne_of_beq_eq_false h)]
      cases h2 : Nat.blt i j with
      | true => rw [if_pos (by simpa [Nat.blt_eq] using h2)]
      | false =>
        rw [if_neg (fun h3 => by rw [← Nat.blt_eq] at h3; rw [h3] at h2; cases h2), insB_eq i x l]
theorem delB_eq (i : Nat) : ∀ (l : Sl), delB i l = del i l
  | [] => rfl
  | (j, v) :: l => by
    simp only [delB, del]
    cases h : Nat.beq i j with
    | true => rw [if_pos (Nat.eq_of_beq_eq_true h), delB_eq i l]
    | false => rw [if_neg (Nat.ne_of_beq_eq_false h), delB_eq i l]
theorem delsB_eq : ∀ (is : List Nat) (l : Sl), delsB is l = dels is l
  | [], l => rfl
  | i :: is, l => by simp only [delsB, dels, delB_eq, delsB_eq is]
def evB (n : Nat) (l : Sl) : Opd → V
  | .tmp i => match Nat.blt i n with | true => getB l i | false => .junk
  | .cst v => v
theorem evB_eq (n : Nat) (l : Sl) : evB n l = ev (fr n l) := by
  funext o
  cases o with
  | cst v => rfl
  | tmp i =>
    simp only [evB, ev]
    cases h : Nat.blt i n with
    | true => rw [fr_getD (by simpa [Nat.blt_eq] using h), getB_eq]
    | false =>
      have hn : ¬ i < n := fun h3 => by rw [← Nat.blt_eq] at h3; rw [h3] at h; cases h
      rw [List.getD_eq_getElem?_getD, List.getElem?_eq_none (by rw [fr_length]; omega)]
      rfl
def putB (l : Sl) (dst : Option Nat) (v : V) : Sl := match dst with | some d => insB d v l | none => l
theorem put_B (n : Nat) (l : Sl) (dst : Option Nat) (v : V) : put (fr n l) dst v = fr n (putB l dst v) := by
  cases dst with
  | none => rfl
  | some d => simp only [putB, insB_eq]; exact put_fr n l d v
def wantedB (n : Nat) (o : AOper) (l : Sl) : Option Bool :=
  match o.guard with
  | none => some true
  | some (g, want) =>
    match evB n l (.tmp g) with
    | .bool b => some (match want with | true => b | false => !b)
    | .tup [] => some false
    | _ => none
theorem wanted_B (n : Nat) (o : AOper) (l : Sl) : wanted o (fr n l) = wantedB n o l := by
  unfold wanted wantedB
  rw [evB_eq]
  rfl
def stepOpB (call : Caller) (fb n : Nat) (o : AOper) (l : Sl) (h : Heap) : Option (Sl × Heap) :=
  match wantedB n o l with
  | none => none
  | some false => some (putB l o.dst (.tup []), h)
  | some true =>
    match doOp call fb o.op (evB n l) h with
    | some (v, h') => some (putB l o.dst v, h')
    | none => none
theorem stepOp_B (call : Caller) (fb n : Nat) (o : AOper) (l : Sl) (h : Heap) : stepOp call fb o (fr n l) h = (stepOpB call fb n o l h).map fun p => (fr n p.1, p.2) := by
  unfold stepOp stepOpB
  rw [wanted_B, evB_eq]
  cases wantedB n o l with
  | none => rfl
  | some b =>
    cases b with
    | false => simp only [put_B, Option.map_some]
    | true =>
      cases doOp call fb o.op (ev (fr n l)) h with
      | none => rfl
      | some p => simp only [put_B, Option.map_some]
def runOpsB (call : Caller) (fb n : Nat) : List AOper → Sl → Heap → Option (Sl × Heap)
  | [], l, h => some (l, h)
  | o :: os, l, h =>
    match stepOpB call fb n o l h with
    | some (l', h') => runOpsB call fb n os l' h'
    | none => none
theorem runOps_B (call : Caller) (fb n : Nat) : ∀ (ops : List AOper) (l : Sl) (h : Heap), runOps call fb ops (fr n l) h = (runOpsB call fb n ops l h).map fun p => (fr n p.1, p.2)
  | [], l, h => rfl
  | o :: os, l, h => by
    simp only [runOps, runOpsB, stepOp_B]
    cases stepOpB call fb n o l h with
    | none => rfl
    | some p => exact runOps_B call fb n os p.1 p.2
def fpAtB (pureF : FuncId → FMode) (fb n : Nat) (o : AOper) (l : Sl) (h : Heap) : Fp :=
  match wantedB n o l with
  | some true => fpOf pureF fb (evB n l) h o.op
  | _ => .io [] []
theorem fpAt_B (pureF : FuncId → FMode) (fb n : Nat) (o : AOper) (l : Sl) (h : Heap) : fpAt pureF fb o (fr n l) h = fpAtB pureF fb n o l h := by
  unfold fpAt fpAtB
  rw [wanted_B, evB_eq]
  rfl
def runDrawB (pureF : FuncId → FMode) (call : Caller) (fb m n : Nat) : List (AOper × List Nat) → List FpT → Sl → Heap → Option (Sl × Heap)
  | [], _, l, h => some (l, h)
  | (o, ps) :: os, fps, l, h =>
    match ps.all (fun k => (fps.getD k .bar).ok m (fpAtB pureF fb n o l h)) with
    | true =>
      match stepOpB call fb n o l h with
      | some (l', h') => runDrawB pureF call fb m n os (fps ++ [tagP (o.op.rds (evB n l)) (fpAtB pureF fb n o l h) h h']) l' h'
      | none => none
    | false => none
theorem runDraw_B (pureF : FuncId → FMode) (call : Caller) (fb m n : Nat) : ∀ (ops : List (AOper × List Nat)) (fps : List FpT) (l : Sl) (h : Heap), runDraw pureF call fb m ops fps (fr n l) h = (runDrawB pureF call fb m n ops fps l h).map fun p => (fr n p.1, p.2)
  | [], fps, l, h => rfl
  | (o, ps) :: os, fps, l, h => by
    simp only [runDraw, runDrawB, stepOp_B, fpAt_B, evB_eq]
    cases ps.all (fun k => (fps.getD k .bar).ok m (fpAtB pureF fb n o l h)) with
    | false => rfl
    | true =>
      simp only [↓reduceIte]
      cases stepOpB call fb n o l h with
      | none => rfl
      | some p => exact runDraw_B pureF call fb m n os _ p.1 p.2
def loopNB (f : Sl → Heap → Option (Ex × Sl × Heap)) (pre : Sl → Heap → Sl × Heap) : Nat → Sl → Heap → Option (Ex × Sl × Heap)
  | 0, _, _ => none
  | n + 1, l, h =>
    match f (pre l h).1 (pre l h).2 with
    | some (.norm, l', h') => loopNB f pre n l' h'
    | r => r
theorem loopN_B {n : Nat} {f : List V → Heap → Option (Ex × List V × Heap)} {f' : Sl → Heap → Option (Ex × Sl × Heap)} (hf : ∀ l h, f (fr n l) h = (f' l h).map fun p => (p.1, fr n p.2.1, p.2.2)) {pre : List V → Heap → List V × Heap} {pre' : Sl → Heap → Sl × Heap}
    (hp : ∀ l h, pre (fr n l) h = (fr n (pre' l h).1, (pre' l h).2)) : ∀ (m : Nat) (l : Sl) (h : Heap), loopN f pre m (fr n l) h = (loopNB f' pre' m l h).map fun p => (p.1, fr n p.2.1, p.2.2)
  | 0, l, h => rfl
  | m + 1, l, h => by
    simp only [loopN, loopNB, hp, hf]
    cases f' (pre' l h).1 (pre' l h).2 with
    | none => rfl
    | some p =>
      obtain ⟨e, l', h'⟩ := p
      cases e with
      | norm => exact loopN_B hf hp m l' h'
      | _ => rfl
def execB (pureF : FuncId → FMode) (call : Caller) (N fb n : Nat) : ACode → Sl → Heap → Option (Ex × Sl × Heap)
  | .skip, l, h => some (.norm, l, h)
  | .region ops, l, h => match runOpsB call fb n ops l h with | some (l', h') => some (.norm, l', h') | none => none
  | .draw ops, l, h => match runDrawB pureF (frameC pureF call) fb h.length n ops [] l h with | some (l', h') => some (.norm, l', h') | none => none
  | .seq a b, l, h => match execB pureF call N fb n a l h with | some (.norm, l', h') => execB pureF call N fb n b l' h' | r => r
  | .cond c a b, l, h => match evB n l c with | .bool true => execB pureF call N fb n a l h | .bool false => execB pureF call N fb n b l h | _ => none
  | .block id b, l, h => match execB pureF call N fb n b l h with | some (.exit i, l', h') => (match Nat.beq i id with | true => some (.norm, l', h') | false => some (.exit i, l', h')) | r => r
  | .loop clr kill b, l, h => loopNB (execB pureF call N fb n b) (fun l h => (delsB clr l, killA fb kill h)) N l h
  | .exit id, l, h => some (.exit id, l, h)
  | .ret, l, h => some (.ret, l, h)
  | .clr is, l, h => some (.norm, delsB is l, h)
  | .fresh k b, l, h => execB pureF call N h.length n b l (h ++ deads k)
  | .rangeF f _ _ _ fid k site, l, h =>
    match h[fb + site]? with
    | some x =>
      match evB n l f with
      | .func g xs ys =>
        match Nat.beq g YLD with
        | true => none
        | false =>
        match call g (xs ++ [.yld (fb + site) (x.ver + 1)] ++ ys) (h.set (fb + site) ⟨x.ver + 1, .loop 0 none (fr n l) fb fid k⟩) with
        | some (_, h2) =>
          match h2[fb + site]? with
          | some ⟨v, .loop st pend _ _ _ _⟩ => if v = x.ver + 1 then if st = 1 then none else some (jumpE pend, l, h2.set (fb + site) ⟨v, .dead⟩) else none
          | _ => none
        | none => none
      | _ => none
    | none => none
theorem exec_B (pureF : FuncId → FMode) (call : Caller) (N fb n : Nat) : ∀ (c : ACode) (l : Sl) (h : Heap), exec pureF call N fb c (fr n l) h = (execB pureF call N fb n c l h).map fun p => (p.1, fr n p.2.1, p.2.2)
  | .skip, l, h => rfl
  | .region ops, l, h => by
    simp only [exec, execB, runOps_B]
    cases runOpsB call fb n ops l h <;> rfl
  | .draw ops, l, h => by
    simp only [exec, execB, runDraw_B]
    cases runDrawB pureF (frameC pureF call) fb h.length n ops [] l h <;> rfl
  | .seq a b, l, h => by
    simp only [exec, execB, exec_B pureF call N fb n a]
    cases execB pureF call N fb n a l h with
    | none => rfl
    | some p =>
      obtain ⟨e, l', h'⟩ := p
      cases e with
      | norm => exact exec_B pureF call N fb n b l' h'
      | _ => rfl
  | .cond c a b, l, h => by
    simp only [exec, execB, evB_eq]
    cases ev (fr n l) c with
    | bool x => cases x <;> first | exact exec_B pureF call N fb n a l h | exact exec_B pureF call N fb n b l h
    | _ => rfl
  | .block id b, l, h => by
    simp only [exec, execB, exec_B pureF call N fb n b]
    cases execB pureF call N fb n b l h with
    | none => rfl
    | some p =>
      obtain ⟨e, l', h'⟩ := p
      cases e with
      | exit i =>
        simp only [Option.map_some]
        cases hb : Nat.beq i id with
        | true => rw [if_pos (Nat.eq_of_beq_eq_true hb)]; rfl
        | false => rw [if_neg (Nat.ne_of_beq_eq_false hb)]; rfl
      | _ => rfl
  | .loop clr kill b, l, h => by
    simp only [exec, execB]
    exact loopN_B (exec_B pureF call N fb n b) (fun l h => by rw [fr_clear, delsB_eq]) N l h
  | .exit id, l, h => rfl
  | .ret, l, h => rfl
  | .clr is, l, h => by
    simp only [exec, execB, fr_clear, delsB_eq]
    rfl
  | .fresh k b, l, h => by
    simp only [exec, execB]
    exact exec_B pureF call N h.length n b l _
  | .rangeF f ps a b fid k site, l, h => by
    simp only [exec, execB, evB_eq]
    cases h[fb + site]? with
    | none => rfl
    | some x =>
      cases ev (fr n l) f with
      | func g xs ys =>
        simp only
        cases hg : Nat.beq g YLD with
        | true => rw [if_pos (Nat.eq_of_beq_eq_true hg)]; rfl
        | false =>
          rw [if_neg (Nat.ne_of_beq_eq_false hg)]
          simp only
          cases call g (xs ++ [.yld (fb + site) (x.ver + 1)] ++ ys) (h.set (fb + site) ⟨x.ver + 1, .loop 0 none (fr n l) fb fid k⟩) with
          | none => rfl
          | some p =>
            obtain ⟨v, h2⟩ := p
            simp only
            cases hq : h2[fb + site]? with
            | none => rfl
            | some ob =>
              obtain ⟨v, bd⟩ := ob
              cases bd with
              | loop st pend t' fb' f' k' =>
                simp only
                by_cases c1 : v = x.ver + 1
                · by_cases c2 : st = 1
                  · simp only [c1, c2, ↓reduceIte, Option.map_none]
                  · simp only [c1, c2, ↓reduceIte, Option.map_some]
                · simp only [c1, ↓reduceIte, Option.map_none]
              | _ => rfl
      | _ => rfl
def toB : Nat → List V → Sl
  | _, [] => []
  | i, v :: t => match v with | .junk => toB (i + 1) t | v => (i, v) :: toB (i + 1) t
theorem get_toB : ∀ (t : List V) (k i : Nat), get (toB k t) i = if i < k then .junk else t.getD (i - k) .junk
  | [], k, i => by simp [toB, get]
  | v :: t, k, i => by
    have ih := get_toB t (k + 1) i
    have step : ∀ (l : Sl), (get l i = if i < k + 1 then .junk else t.getD (i - (k + 1)) .junk) → (if i = k then v else get l i) = if i < k then .junk else (v :: t).getD (i - k) .junk := by
      intro l hl
      by_cases h1 : i = k
      · subst h1; simp
      · rw [if_neg h1, hl]
        by_cases h2 : i < k
        · rw [if_pos (by omega), if_pos h2]
        · rw [if_neg (by omega), if_neg h2, show i - k = (i - (k + 1)) + 1 by omega, List.getD_cons_succ]
    cases v with
    | junk =>
      simp only [toB]
      rw [ih]
      by_cases h2 : i < k
      · rw [if_pos (by omega), if_pos h2]
      · rw [if_neg h2]
        by_cases h1 : i = k
        · subst h1; simp
        · rw [if_neg (by omega), show i - k = (i - (k + 1)) + 1 by omega, List.getD_cons_succ]
    | _ => exact step _ ih
theorem fr_toB (t : List V) : fr t.length (toB 0 t) = t := by
  apply List.ext_getElem?
  intro i
  rcases Nat.lt_or_ge i t.length with h | h
  · rw [fr_get? h, get_toB]
    simp [List.getD_eq_getElem?_getD, h]
  · rw [List.getElem?_eq_none (by rw [fr_length]; exact h), List.getElem?_eq_none h]
def yieldB (p : AProg) (call : Caller) (N : Nat) (args : List V) (h : Heap) : Option (V × Heap) :=
  match args with
  | .yld o ver :: xs =>
    match h[o]? with
    | some ⟨v, .loop _ _ t fb f k⟩ =>
      match Nat.beq v ver with
      | false => none
      | true =>
        match p[f]? with
        | some (some af) =>
          match (rangesA af.body)[k]? with
          | some (ps, asn, body) =>
            match Nat.beq xs.length ps.length with
            | false => none
            | true =>
              match execB (pureOf p) call N fb t.length asn ((ps.zip xs).foldl (fun l p => insB p.1 p.2 l) (toB 0 t)) h with
              | some (.norm, t1, h1) =>
                match h1[o]? with
                | some ⟨v1, .loop 0 p1 t2 fb2 f2 k2⟩ =>
                  match Nat.beq v1 ver with
                  | false => none
                  | true =>
                    match execB (pureOf p) call N fb t.length body t1 (h1.set o ⟨ver, .loop 1 p1 t2 fb2 f2 k2⟩) with
                    | some (x, _, h2) =>
                      match h2[o]? with
                      | some ⟨v2, .loop _ _ t3 fb3 f3 k3⟩ =>
                        match Nat.beq v2 ver with
                        | false => none
                        | true =>
                          match x with
                          | .norm => some (.bool true, h2.set o ⟨ver, .loop 0 none t3 fb3 f3 k3⟩)
                          | .exit id => some (.bool false, h2.set o ⟨ver, .loop 2 (some (some id)) t3 fb3 f3 k3⟩)
                          | .ret => some (.bool false, h2.set o ⟨ver, .loop 2 (some none) t3 fb3 f3 k3⟩)
                      | _ => none
                    | none => none
                | _ => none
              | _ => none
          | none => none
        | _ => none
    | _ => none
  | _ => none
theorem setPs_B (n : Nat) : ∀ (ps : List (Nat × V)) (l : Sl), ps.foldl (fun t p => t.set p.1 p.2) (fr n l) = fr n (ps.foldl (fun l p => insB p.1 p.2 l) l)
  | [], l => rfl
  | p :: ps, l => by
    rw [List.foldl_cons, List.foldl_cons, fr_set, ← insB_eq]
    exact setPs_B n ps _
theorem yield_B {p : AProg} {call : Caller} {N : Nat} {args : List V} {h : Heap} {r : V × Heap} (H : yieldB p call N args h = some r) : yieldA p call N args h = some r := by
  unfold yieldB at H
  split at H
  case h_2 => cases H
  rename_i o ver xs
  split at H
  case h_2 => cases H
  rename_i v st pd t fb f k hob
  split at H
  case h_1 => cases H
  rename_i hv
  have hv := Nat.eq_of_beq_eq_true hv
  split at H
  case h_2 => cases H
  rename_i af haf
  split at H
  case h_2 => cases H
  rename_i ps asn body hra
  split at H
  case h_1 => cases H
  rename_i hl
  have hl := Nat.eq_of_beq_eq_true hl
  split at H
  case h_2 => cases H
  rename_i t1 h1 he1
  split at H
  case h_2 => cases H
  rename_i v1 p1 t2 fb2 f2 k2 ho1
  split at H
  case h_1 => cases H
  rename_i hv1
  have hv1 := Nat.eq_of_beq_eq_true hv1
  split at H
  case h_2 => cases H
  rename_i x t4 h2 he2
  split at H
  case h_2 => cases H
  rename_i v2 st3 pd3 t3 fb3 f3 k3 ho2
  split at H
  case h_1 => cases H
  rename_i hv2
  have hv2 := Nat.eq_of_beq_eq_true hv2
  have e1 : exec (pureOf p) call N fb asn (setPs ps xs t) h = some (.norm, fr t.length t1, h1) := by
    have := exec_B (pureOf p) call N fb t.length asn ((ps.zip xs).foldl (fun l p => insB p.1 p.2 l) (toB 0 t)) h
    rw [← setPs_B, fr_toB, he1] at this
    exact this
  have e2 := exec_B (pureOf p) call N fb t.length body t1 (h1.set o ⟨ver, .loop 1 p1 t2 fb2 f2 k2⟩)
  rw [he2] at e2
  unfold yieldA
  simp only [hob, hv, ↓reduceIte, haf, hra, hl, e1, ho1, hv1, e2, Option.map_some, ho2, hv2]
  exact H
def resB (get : Nat → Option Ob) (n : Nat) (l : Sl) : List ARes → Option (List V)
  | [] => some []
  | r :: rs => match (match r with | .tmp i => some (evB n l (.tmp i)) | .cell i ag => (loadA get (nAg ag) (evB n l (.tmp i))).bind (packA ag)), resB get n l rs with | some v, some vs => some (v :: vs) | _, _ => none
theorem res_B (get : Nat → Option Ob) (n : Nat) (l : Sl) : ∀ (rs : List ARes), resA get (fr n l) rs = resB get n l rs
  | [] => rfl
  | r :: rs => by
    have e : resA1 get (fr n l) r = (match r with | .tmp i => some (evB n l (.tmp i)) | .cell i ag => (loadA get (nAg ag) (evB n l (.tmp i))).bind (packA ag)) := by
      rw [evB_eq]
      cases r <;> rfl
    simp only [resA, resB, e, res_B get n l rs] <;> (cases r <;> rfl)
def bodyB (p : AProg) (call : Caller) (N fb : Nat) (fn : AFunc) (args : List V) (h : Heap) : Option (V × Heap) :=
  match Nat.ble args.length fn.nt with
  | false => none
  | true =>
    match execB (pureOf p) call N fb fn.nt fn.body (argsF 0 args) h with
    | some (.norm, l, h') => match resB (fun o => h'[o]?) fn.nt l fn.res with | some vs => some (packR vs, h') | none => none
    | some (.ret, l, h') => match resB (fun o => h'[o]?) fn.nt l fn.res with | some vs => some (packR vs, h') | none => none
    | _ => none
theorem body_B {p : AProg} {call : Caller} {N fb : Nat} {fn : AFunc} {args : List V} {h : Heap} {r : V × Heap} (H : bodyB p call N fb fn args h = some r) : bodyA p call N fb fn args h = some r := by
  unfold bodyB at H
  split at H
  case h_1 => cases H
  rename_i hle
  have hle := Nat.le_of_ble_eq_true hle
  unfold bodyA
  rw [fr_args args fn.nt hle, exec_B]
  split at H
  · rename_i l h' he
    rw [he]
    simp only [Option.map_some, res_B]
    exact H
  · rename_i l h' he
    rw [he]
    simp only [Option.map_some, res_B]
    exact H
  · cases H
def callB (p : AProg) (N : Nat) : Nat → Caller
  | 0, _, _, _ => none
  | n + 1, f, args, h =>
    match Nat.beq f YLD with
    | true => yieldB p (callB p N n) N args h
    | false =>
    match p[f]? with
    | some (some fn) =>
      match Nat.beq args.length fn.nargs with
      | false => none
      | true =>
        match fn.mode with
        | .keep => bodyB p (callB p N n) N h.length fn args (h ++ deads fn.sites)
        | .auto =>
          match V.freeL args with
          | true =>
            match bodyB p (callB p N n) N 0 fn args (deads fn.sites) with
            | some (v, h') => match V.shut (fun o => h'[o]?) sealDepth v with | some v' => some (v', h) | none => none
            | none => none
          | false => bodyB p (callB p N n) N h.length fn args (h ++ deads fn.sites)
        | .pure =>
          match V.freeL args with
          | true =>
            match bodyB p (callB p N n) N 0 fn args (deads fn.sites) with
            | some (v, h') => match V.shut (fun o => h'[o]?) sealDepth v with | some v' => some (v', h) | none => none
            | none => none
          | false => none
        | .look =>
          match args.mapM (V.shut (fun o => h[o]?) sealDepth) with
          | some args' =>
            match bodyB p (callB p N n) N 0 fn args' (deads fn.sites) with
            | some (v, _) => match v.plain with | true => some (v, h) | false => none
            | none => none
          | none => none
    | _ => none
theorem call_B (p : AProg) (N : Nat) : ∀ (n : Nat), Sub (callB p N n) (callA p N n)
  | 0 => by intro f args h r H; simp [callB] at H
  | n + 1 => by
    have ih := call_B p N n
    have B : ∀ {fb : Nat} {fn : AFunc} {args : List V} {h : Heap} {r : V × Heap}, bodyB p (callB p N n) N fb fn args h = some r → bodyA p (callA p N n) N fb fn args h = some r := fun H => bodyA_mono ih (Nat.le_refl _) (body_B H)
    intro f args h r H
    unfold callB at H
    unfold callA
    split at H
    · rename_i hy
      rw [if_pos (Nat.eq_of_beq_eq_true hy)]
      exact yieldA_mono ih (Nat.le_refl _) (yield_B H)
    · rename_i hy
      rw [if_neg (Nat.ne_of_beq_eq_false hy)]
      split at H
      case h_2 => cases H
      rename_i fn hf
      try simp only [hf]
      split at H
      case h_1 => cases H
      rename_i hl
      rw [if_pos (Nat.eq_of_beq_eq_true hl)]
      split at H
      · rename_i hm; (try simp only [hm]); exact B H
      · rename_i hm
        try simp only [hm]
        split at H
        · rename_i hfr
          rw [if_pos hfr]
          split at H
          · rename_i hb
            rw [B hb]
            exact H
          · cases H
        · rename_i hfr
          rw [if_neg (by rw [hfr]; decide)]
          exact B H
      · rename_i hm
        try simp only [hm]
        split at H
        · rename_i hfr
          rw [if_pos hfr]
          split at H
          · rename_i hb
            rw [B hb]
            exact H
          · cases H
        · cases H
      · rename_i hm
        try simp only [hm]
        split at H
        · rename_i hs
          try simp only [hs]
          split at H
          · rename_i hb
            rw [B hb]
            split at H
            · rename_i hp
              simp only [hp, ↓reduceIte]
              exact H
            · cases H
          · cases H
        · cases H
theorem closed_quick {p : AProg} {N0 n0 : Nat} {f : FuncId} {args : List V} {v : V} (hm : pureOf p f = .pure) (H : callB p N0 n0 f args [] = some (v, [])) {N n : Nat} (hN : N0 ≤ N) (hn : n0 ≤ n) (h : Heap) (hy : f ≠ YLD := by decide) : callA p N n f args h = some (v, h) :=
  closed_call hm (call_B p N0 n0 f args [] (v, []) H) hN hn h hy
end Go.Am


set_option linter.unusedVariables false
set_option linter.unusedSimpArgs false
namespace Go.Am
theorem sx_rangeF {E : Env} {f : Opd} {ps : List Nat} {a b : ACode} {fid k site : Nat} {t : List V} {h : Heap} {Q : Post} {x : Ob} {g : FuncId} {xs ys : List V} {v : V} {h2 : Heap} {st : Nat} {pend : Option (Option Nat)} {t' : List V} {fb' f' k' : Nat}
    (hx : h[E.fb + site]? = some x) (hf : ev t f = .func g xs ys) (hc : E.call g (xs ++ [.yld (E.fb + site) (x.ver + 1)] ++ ys) (h.set (E.fb + site) ⟨x.ver + 1, .loop 0 none t E.fb fid k⟩) = some (v, h2))
    (h2o : h2[E.fb + site]? = some ⟨x.ver + 1, .loop st pend t' fb' f' k'⟩) (hst : st ≠ 1) (HQ : Q (jumpE pend) t (h2.set (E.fb + site) ⟨x.ver + 1, .dead⟩)) (hg : g ≠ YLD := by decide) : sx E (.rangeF f ps a b fid k site) t h Q := by
  show wp E (.rangeF f ps a b fid k site) t h Q
  unfold wp
  simp only [exec, hx, hf, if_neg hg, hc, h2o, ↓reduceIte, if_neg hst]
  exact HQ
end Go.Am


set_option linter.unusedVariables false
set_option linter.unusedSimpArgs false
namespace Go.Am
end Go.Am
namespace Go.Am
theorem sxb : type_of% (And.intro (And.intro (And.intro (And.intro (And.intro (And.intro (And.intro (@sx_seq) (@sxL_succ)) (And.intro (@lpQ_norm) (@lpQ_exit))) (And.intro (And.intro (@lpQ_ret) (@loopQ_norm)) (And.intro (@loopQ_exit) (And.intro (@loopQ_ret) (@sqQ_norm))))) (And.intro (And.intro (And.intro (@sqQ_ret) (@sqQ_exit)) (And.intro (@sx_block) (@blkQ_norm))) (And.intro (And.intro (@blkQ_exit) (@blkQ_ret)) (And.intro (@sx_cond) (And.intro (@cdP_true) (@cdP_false)))))) (And.intro (And.intro (And.intro (And.intro (@cdP_bool) (@sx_region)) (And.intro (@sx_draw) (@sxo_nil))) (And.intro (And.intro (@sxo_cons) (@sxo_guard)) (And.intro (@gdS_bool) (And.intro (@gdS_eff) (@gdS_tup))))) (And.intro (And.intro (And.intro (@gdS_sel) (@gdS_seleff)) (And.intro (@sxK_def) (And.intro (@wcall_some) (@effP_ret)))) (And.intro (And.intro (@effP_set) (@effP_none)) (And.intro (@effP_ite) (And.intro (@wop_call) (@wop_cv))))))) (And.intro (And.intro (And.intro (And.intro (And.intro (@cvP_func) (@sx_ret)) (And.intro (@sx_exit) (@sx_skip))) (And.intro (And.intro (@sx_clr) (@sx_fresh)) (And.intro (@wantB_true) (And.intro (@wantB_false) (@impB_triv))))) (And.intro (And.intro (And.intro (@valOf_some) (@retH_some)) (And.intro (@pickO_true) (@pickO_false))) (And.intro (And.intro (@pickO_and) (@pickO_or)) (And.intro (@pickO_andr) (And.intro (@pickO_orr) (@pickO_orrn)))))) (And.intro (And.intro (And.intro (And.intro (@pickO_orn) (@pickO_bb)) (And.intro (@pickAnd_bool) (@pickOr_bool))) (And.intro (And.intro (@Bool.and_assoc) (@Bool.or_assoc)) (And.intro (@ev_fr) (And.intro (@ev_cst) (@put_none))))) (And.intro (And.intro (And.intro (@put_fr) (@not_false_eq_true)) (And.intro (@framed_pureF) (And.intro (@framed_fb) (@framed_N)))) (And.intro (And.intro (@framed_pure) (@wop_prim)) (And.intro (@Nat.zero_add) (And.intro (@Nat.add_zero) (@Nat.not_lt_zero)))))))) (And.intro (And.intro (And.intro (And.intro (And.intro (And.intro (@opt_bind_some) (@opt_map_some)) (And.intro (@opt_bind_none) (@opt_map_none))) (And.intro (And.intro (@sr_nil) (@sr_cons)) (And.intro (@sr_succ) (And.intro (@sr_all) (@sr_len))))) (And.intro (And.intro (And.intro (@retQ_ret) (@retQ_norm)) (And.intro (@fr_getD) (@shut_bool))) (And.intro (And.intro (@shut_int) (@V.bool.injEq)) (And.intro (@V.int.injEq) (And.intro (@Bool.not_true) (@Bool.not_false)))))) (And.intro (And.intro (And.intro (And.intro (@true_and) (@and_true)) (And.intro (@and_self) (@Bool.and_true))) (And.intro (And.intro (@Bool.and_false) (@Bool.true_and)) (And.intro (@Bool.false_and) (And.intro (@Bool.or_true) (@Bool.or_false))))) (And.intro (And.intro (And.intro (@Bool.true_or) (@Bool.false_or)) (And.intro (@Bool.false_eq_true) (And.intro (@shut_plain) (@freeL_cons)))) (And.intro (And.intro (@freeL_nil) (@free_int)) (And.intro (@free_bool) (And.intro (@free_agg) (@free_str))))))) (And.intro (And.intro (And.intro (And.intro (And.intro (@free_nils) (@free_tup)) (And.intro (@free_sl) (@true_implies))) (And.intro (And.intro (@false_implies) (@Nat.sub_zero)) (And.intro (@Int.natCast_nonneg) (And.intro (@Int.toNat_natCast) (@Nat.le_refl))))) (And.intro (And.intro (And.intro (@not_true_eq_false) (@wrap64)) (And.intro (@false_and) (@and_false))) (And.intro (And.intro (@Bool.cond_true_left) (@Bool.cond_false_right)) (And.intro (@decide_true) (And.intro (@decide_false) (@Int.cast_ofNat_Int)))))) (And.intro (And.intro (And.intro (And.intro (@Nat.mul_one) (@Bool.true_eq_false)) (And.intro (@Bool.not_eq_true) (@Bool.not_eq_false))) (And.intro (And.intro (@List.all_cons.{0}) (@List.all_nil.{0})) (And.intro (@List.isEmpty_nil.{0}) (And.intro (@List.isEmpty_cons.{0}) (@List.getElem?_cons_zero.{0}))))) (And.intro (And.intro (And.intro (@List.getElem?_cons_succ.{0}) (@List.set_cons_zero.{0})) (And.intro (@List.set_cons_succ.{0}) (And.intro (@List.map_cons.{0, 0}) (@List.map_nil.{0, 0})))) (And.intro (And.intro (@List.cons_append.{0}) (@List.nil_append.{0})) (And.intro (@List.length_cons.{0}) (And.intro (@List.length_nil.{0}) (@Option.some.injEq.{0}))))))))) := And.intro (And.intro (And.intro (And.intro (And.intro (And.intro (And.intro (@sx_seq) (@sxL_succ)) (And.intro (@lpQ_norm) (@lpQ_exit))) (And.intro (And.intro (@lpQ_ret) (@loopQ_norm)) (And.intro (@loopQ_exit) (And.intro (@loopQ_ret) (@sqQ_norm))))) (And.intro (And.intro (And.intro (@sqQ_ret) (@sqQ_exit)) (And.intro (@sx_block) (@blkQ_norm))) (And.intro (And.intro (@blkQ_exit) (@blkQ_ret)) (And.intro (@sx_cond) (And.intro (@cdP_true) (@cdP_false)))))) (And.intro (And.intro (And.intro (And.intro (@cdP_bool) (@sx_region)) (And.intro (@sx_draw) (@sxo_nil))) (And.intro (And.intro (@sxo_cons) (@sxo_guard)) (And.intro (@gdS_bool) (And.intro (@gdS_eff) (@gdS_tup))))) (And.intro (And.intro (And.intro (@gdS_sel) (@gdS_seleff)) (And.intro (@sxK_def) (And.intro (@wcall_some) (@effP_ret)))) (And.intro (And.intro (@effP_set) (@effP_none)) (And.intro (@effP_ite) (And.intro (@wop_call) (@wop_cv))))))) (And.intro (And.intro (And.intro (And.intro (And.intro (@cvP_func) (@sx_ret)) (And.intro (@sx_exit) (@sx_skip))) (And.intro (And.intro (@sx_clr) (@sx_fresh)) (And.intro (@wantB_true) (And.intro (@wantB_false) (@impB_triv))))) (And.intro (And.intro (And.intro (@valOf_some) (@retH_some)) (And.intro (@pickO_true) (@pickO_false))) (And.intro (And.intro (@pickO_and) (@pickO_or)) (And.intro (@pickO_andr) (And.intro (@pickO_orr) (@pickO_orrn)))))) (And.intro (And.intro (And.intro (And.intro (@pickO_orn) (@pickO_bb)) (And.intro (@pickAnd_bool) (@pickOr_bool))) (And.intro (And.intro (@Bool.and_assoc) (@Bool.or_assoc)) (And.intro (@ev_fr) (And.intro (@ev_cst) (@put_none))))) (And.intro (And.intro (And.intro (@put_fr) (@not_false_eq_true)) (And.intro (@framed_pureF) (And.intro (@framed_fb) (@framed_N)))) (And.intro (And.intro (@framed_pure) (@wop_prim)) (And.intro (@Nat.zero_add) (And.intro (@Nat.add_zero) (@Nat.not_lt_zero)))))))) (And.intro (And.intro (And.intro (And.intro (And.intro (And.intro (@opt_bind_some) (@opt_map_some)) (And.intro (@opt_bind_none) (@opt_map_none))) (And.intro (And.intro (@sr_nil) (@sr_cons)) (And.intro (@sr_succ) (And.intro (@sr_all) (@sr_len))))) (And.intro (And.intro (And.intro (@retQ_ret) (@retQ_norm)) (And.intro (@fr_getD) (@shut_bool))) (And.intro (And.intro (@shut_int) (@V.bool.injEq)) (And.intro (@V.int.injEq) (And.intro (@Bool.not_true) (@Bool.not_false)))))) (And.intro (And.intro (And.intro (And.intro (@true_and) (@and_true)) (And.intro (@and_self) (@Bool.and_true))) (And.intro (And.intro (@Bool.and_false) (@Bool.true_and)) (And.intro (@Bool.false_and) (And.intro (@Bool.or_true) (@Bool.or_false))))) (And.intro (And.intro (And.intro (@Bool.true_or) (@Bool.false_or)) (And.intro (@Bool.false_eq_true) (And.intro (@shut_plain) (@freeL_cons)))) (And.intro (And.intro (@freeL_nil) (@free_int)) (And.intro (@free_bool) (And.intro (@free_agg) (@free_str))))))) (And.intro (And.intro (And.intro (And.intro (And.intro (@free_nils) (@free_tup)) (And.intro (@free_sl) (@true_implies))) (And.intro (And.intro (@false_implies) (@Nat.sub_zero)) (And.intro (@Int.natCast_nonneg) (And.intro (@Int.toNat_natCast) (@Nat.le_refl))))) (And.intro (And.intro (And.intro (@not_true_eq_false) (@wrap64)) (And.intro (@false_and) (@and_false))) (And.intro (And.intro (@Bool.cond_true_left) (@Bool.cond_false_right)) (And.intro (@decide_true) (And.intro (@decide_false) (@Int.cast_ofNat_Int)))))) (And.intro (And.intro (And.intro (And.intro (@Nat.mul_one) (@Bool.true_eq_false)) (And.intro (@Bool.not_eq_true) (@Bool.not_eq_false))) (And.intro (And.intro (@List.all_cons.{0}) (@List.all_nil.{0})) (And.intro (@List.isEmpty_nil.{0}) (And.intro (@List.isEmpty_cons.{0}) (@List.getElem?_cons_zero.{0}))))) (And.intro (And.intro (And.intro (@List.getElem?_cons_succ.{0}) (@List.set_cons_zero.{0})) (And.intro (@List.set_cons_succ.{0}) (And.intro (@List.map_cons.{0, 0}) (@List.map_nil.{0, 0})))) (And.intro (And.intro (@List.cons_append.{0}) (@List.nil_append.{0})) (And.intro (@List.length_cons.{0}) (And.intro (@List.length_nil.{0}) (@Option.some.injEq.{0}))))))))
end Go.Am


set_option linter.unusedVariables false
set_option linter.unusedSimpArgs false
set_option maxRecDepth 10000
namespace Go.Am.T
attribute [local congr] selV_congr impB_congr
theorem lt_of_get {H : Heap} {o : Nat} {x : Ob} (h : H[o]? = some x) : o < H.length := by
  rcases Nat.lt_or_ge o H.length with h' | h'
  · exact h'
  · rw [List.getElem?_eq_none h'] at h; cases h
structure Dv where
  S : List (List Int)
  E : List Int
  n : Nat
  cut : Bool
  left : Int
  lost : Bool
  done : Int
def secV (s : List Int) : V := .agg (s.map (V.int .u8))
def Dv.cs (D : Dv) (X : V) : List V := X :: (D.E.map (V.int .i64) ++ [.int .i64 (D.n : Int), .bool D.cut, .int .i64 D.left, .bool D.lost, .int .i64 D.done])
structure Dv.Ok (D : Dv) : Prop where
  e8 : D.E.length = 8
  n1 : 1 ≤ D.n
  n8 : D.n ≤ 8
  s1 : 1 ≤ D.S.length
  s4 : D.S.length ≤ 4096
  sec : ∀ s ∈ D.S, s.length = 64
  l0 : D.cut = true → 0 ≤ D.left
  l1 : D.left ≤ 9223372036854775807
  z : ∀ i, D.n ≤ i → D.E.getD i 0 = 0
  eb : ∀ e ∈ D.E, 0 ≤ e ∧ e ≤ 2147483647
structure DAt (H : Heap) (d o : Nat) (D : Dv) : Prop where
  ok : D.Ok
  ob : ∃ ver cap, H[d]? = some ⟨1, .var (D.cs (.view o ver 0 D.S.length 64 cap))⟩ ∧ H[o]? = some ⟨ver, .arr (D.S.flatten.map (V.int .u8))⟩
  apart : d ≠ o
def Dv.seen (D : Dv) (cap : Option Nat) : V := .iptr (D.cs (.sl (D.S.map secV) 64 cap)) 0
section
variable {D : Dv} {X : V}
theorem dv_len (h : D.E.length = 8) : (D.cs X).length = 14 := by simp [Dv.cs, h]
theorem dv_e (h : D.E.length = 8) {i : Nat} (hi : i < 8) : List.take 1 (List.drop (1 + i) (D.cs X)) = [.int .i64 (D.E.getD i 0)] := by
  have hl : i < D.E.length := by omega
  have e : D.E[i]? = some D.E[i] := List.getElem?_eq_getElem hl
  rw [Dv.cs, show 1 + i = i + 1 by omega, List.drop_succ_cons, List.drop_append_of_le_length (by simp; omega), ← List.map_drop]
  rw [List.drop_eq_getElem_cons hl, List.getD_eq_getElem?_getD, e]
  rfl
theorem dv_n (h : D.E.length = 8) : List.take 1 (List.drop 9 (D.cs X)) = [.int .i64 (D.n : Int)] := by
  rw [Dv.cs, List.drop_succ_cons, List.drop_append, List.drop_eq_nil_of_le (by simp; omega)]
  simp [h]
theorem dv_cut (h : D.E.length = 8) : List.take 1 (List.drop 10 (D.cs X)) = [.bool D.cut] := by
  rw [Dv.cs, List.drop_succ_cons, List.drop_append, List.drop_eq_nil_of_le (by simp; omega)]
  simp [h]
theorem dv_left (h : D.E.length = 8) : List.take 1 (List.drop 11 (D.cs X)) = [.int .i64 D.left] := by
  rw [Dv.cs, List.drop_succ_cons, List.drop_append, List.drop_eq_nil_of_le (by simp; omega)]
  simp [h]
theorem dv_lost (h : D.E.length = 8) : List.take 1 (List.drop 12 (D.cs X)) = [.bool D.lost] := by
  rw [Dv.cs, List.drop_succ_cons, List.drop_append, List.drop_eq_nil_of_le (by simp; omega)]
  simp [h]
theorem dv_done (h : D.E.length = 8) : List.take 1 (List.drop 13 (D.cs X)) = [.int .i64 D.done] := by
  rw [Dv.cs, List.drop_succ_cons, List.drop_append, List.drop_eq_nil_of_le (by simp; omega)]
  simp [h]
end
theorem ints_free (k : IntKind) : ∀ l : List Int, V.freeL (l.map (V.int k)) = true
  | [] => rfl
  | x :: l => by show (true && V.freeL (l.map (V.int k))) = true; rw [ints_free k l]; rfl
theorem ints_one (k : IntKind) : ∀ l : List Int, (l.map (V.int k)).all V.oneCell = true
  | [] => rfl
  | x :: l => by show (true && (l.map (V.int k)).all V.oneCell) = true; rw [ints_one k l]; rfl
theorem mapM_self {f : V → Option V} : ∀ {l : List V}, (∀ x ∈ l, f x = some x) → l.mapM f = some l
  | [], _ => rfl
  | x :: l, h => by
    rw [List.mapM_cons, h x (by simp), mapM_self (l := l) fun y hy => h y (by simp [hy])]
    rfl
theorem secs_free (S : List (List Int)) : V.freeL (S.map secV) = true := by
  refine freeL_of_mem fun c hc => ?_
  obtain ⟨s, -, rfl⟩ := List.mem_map.1 hc
  exact ints_free .u8 s
theorem freeL_append : ∀ (a b : List V), V.freeL (a ++ b) = (V.freeL a && V.freeL b)
  | [], b => rfl
  | x :: a, b => by
    show (x.free && V.freeL (a ++ b)) = ((x.free && V.freeL a) && V.freeL b)
    rw [freeL_append a b, Bool.and_assoc]
theorem dv_free {D : Dv} {X : V} (h : X.free = true) : V.freeL (D.cs X) = true := by
  unfold Dv.cs
  rw [freeL_cons, h, freeL_append, ints_free]
  rfl
theorem sec_pieces : ∀ (S : List (List Int)), (∀ s ∈ S, s.length = 64) → (List.range S.length).map (fun i => wrapV (((S.flatten.map (V.int .u8)).drop (i * 64)).take 64)) = S.map secV
  | [], _ => rfl
  | s :: S, h => by
    have hs := h s (by simp)
    have ih := sec_pieces S fun t ht => h t (by simp [ht])
    have wr : wrapV (s.map (V.int .u8)) = secV s := by
      unfold secV
      match s, hs with
      | a :: b :: l, _ => rfl
    rw [List.length_cons, List.range_succ_eq_map, List.map_cons, List.map_cons, List.map_map]
    congr 1
    · rw [List.flatten_cons, List.map_append, Nat.zero_mul, List.drop_zero, List.take_append_of_le_length (by simp [hs]), List.take_of_length_le (by simp [hs]), wr]
    · rw [← ih]
      refine List.map_congr_left fun i _ => ?_
      show wrapV ((((s :: S).flatten.map (V.int .u8)).drop ((i + 1) * 64)).take 64) = _
      rw [List.flatten_cons, List.map_append, List.drop_append, List.drop_eq_nil_of_le (by simp; omega), List.nil_append, List.length_map, hs, show (i + 1) * 64 - 64 = i * 64 by omega]
theorem flat_len {S : List (List Int)} (h : ∀ s ∈ S, s.length = 64) : S.flatten.length = S.length * 64 := by
  induction S with
  | nil => rfl
  | cons s S ih =>
    rw [List.flatten_cons, List.length_append, h s (by simp), ih fun t ht => h t (by simp [ht]), List.length_cons]
    omega
theorem shut_secs {H : Heap} {o ver : Nat} {S : List (List Int)} {cap : Option Nat} (h : ∀ s ∈ S, s.length = 64) (ho : H[o]? = some ⟨ver, .arr (S.flatten.map (V.int .u8))⟩) (d : Nat) :
    V.shut (fun o => H[o]?) (d + 2) (.view o ver 0 S.length 64 cap) = some (.sl (S.map secV) 64 cap) := by
  have hl : loadA (fun o => H[o]?) (S.length * 64) (.ptr o ver 0) = some (S.flatten.map (V.int .u8)) := by
    simp only [loadA, cellsAt, ho, ↓reduceIte, Nat.zero_add, List.length_map, flat_len h, Nat.le_refl, List.drop_zero]
    rw [List.take_of_length_le (by rw [List.length_map, flat_len h]; exact Nat.le_refl _)]
  have hm : (S.flatten.map (V.int .u8)).mapM (V.shut (fun o => H[o]?) (d + 1)) = some (S.flatten.map (V.int .u8)) := mapM_self fun x hx => by
    obtain ⟨y, -, rfl⟩ := List.mem_map.1 hx
    exact shut_plain rfl
  show (if V.free (.view o ver 0 S.length 64 cap) = true then _ else _) = _
  rw [if_neg (by simp [V.free])]
  simp only [hl, hm, ints_one, ↓reduceIte, sec_pieces S h]
theorem DAt.shut {H : Heap} {d o : Nat} {D : Dv} (h : DAt H d o D) : ∃ cap, V.shut (fun o => H[o]?) sealDepth (.ptr d 1 0) = some (D.seen cap) := by
  obtain ⟨ver, cap, hd, ho⟩ := h.ob
  refine ⟨cap, ?_⟩
  have e : V.shut (fun o => H[o]?) sealDepth (.ptr d 1 0) = match cellsAt (fun o => H[o]?) d 1 with
      | some all => (all.mapM (V.shut (fun o => H[o]?) 63)).map fun cs => .iptr cs 0
      | none => none := rfl
  have hm : ∀ l : List V, (∀ x ∈ l, x.free = true) → l.mapM (V.shut (fun o => H[o]?) 63) = some l := fun l hl => mapM_self fun x hx => shut_plain (hl x hx)
  rw [e]
  simp only [cellsAt, hd, ↓reduceIte, Dv.cs, List.mapM_cons, shut_secs h.ok.sec ho 61]
  rw [hm _ fun x hx => ?_]
  · rfl
  · rcases List.mem_append.1 hx with hx | hx
    · obtain ⟨y, -, rfl⟩ := List.mem_map.1 hx; rfl
    · simp only [List.mem_cons, List.not_mem_nil, or_false] at hx
      rcases hx with rfl | rfl | rfl | rfl | rfl <;> rfl
def Looks (H : Heap) (x : V) (D : Dv) : Prop := D.Ok ∧ ∃ cap, V.shut (fun o => H[o]?) sealDepth x = some (D.seen cap)
theorem DAt.looks {H : Heap} {d o : Nat} {D : Dv} (h : DAt H d o D) : Looks H (.ptr d 1 0) D := ⟨h.ok, h.shut⟩
theorem looks_i {H : Heap} {D : Dv} (h : D.Ok) (cap : Option Nat) : Looks H (D.seen cap) D := ⟨h, cap, shut_plain (dv_free (secs_free _))⟩
end Go.Am.T


set_option linter.unusedVariables false
set_option linter.unusedSimpArgs false
set_option maxRecDepth 10000
namespace Go.Am.T
attribute [local congr] selV_congr impB_congr
theorem look_args1 {H : Heap} {x : V} {D : Dv} (h : Looks H x D) : ∃ cap, [x].mapM (V.shut (fun o => H[o]?) sealDepth) = some [D.seen cap] := by
  obtain ⟨-, cap, e⟩ := h
  exact ⟨cap, by rw [List.mapM_cons, e]; rfl⟩
theorem look_args2 {H : Heap} {x : V} {D : Dv} (h : Looks H x D) (i : Int) : ∃ cap, [x, .int .i64 i].mapM (V.shut (fun o => H[o]?) sealDepth) = some [D.seen cap, .int .i64 i] := by
  obtain ⟨-, cap, e⟩ := h
  exact ⟨cap, by rw [List.mapM_cons, e]; rfl⟩
theorem there_spec {N n : Nat} (hn : 1 ≤ n) {H : Heap} {x : V} {D : Dv} (h : Looks H x D) : callA am N n 48 [x] H = some (.bool true, H) := by
  obtain ⟨n, rfl⟩ : ∃ m, n = m + 1 := ⟨n - 1, by omega⟩
  obtain ⟨cap, ha⟩ := look_args1 h
  have ok := h.1
  have := ok.n1
  have g : decide ((D.n : Int) > 0) = true := decide_eq_true (by omega)
  have q1 := fun X => @dv_len D X ok.e8
  have q2 := fun X => @dv_n D X ok.e8
  refine call_look at48 rfl rfl (by decide) ha (sx_wp ?_)
  unfold Dv.seen
  simp +contextual -implicitDefEqProofs (maxSteps := 10000000) only [sxb, plainD, stays, ↓selV_wt, ↓selV_wf, ↓impB_wt, ↓impB_wf, ↓selV_nor, ↓impB_nor, ↓selV_nt, ↓selV_nf, ↓impB_nt, ↓impB_nf, ↓selV_true, ↓selV_false, ↓selV_and, ↓impB_true, ↓impB_false, ↓impB_and, ↓prim_pick, ↓selV_nn, ↓impB_nn, doOp, get, ins, del, dels, Nat.reduceLT, Nat.reduceEqDiff, ↓reduceIte, reduceCtorEq, ne_eq, implies_true, prim, YLD, mkA, V.cells, Nat.reduceAdd, Nat.reduceSub, Nat.reduceMul, Nat.reduceLeDiff, loadA, cellsAt, nAg, packA, List.drop, List.take, List.head?, binA, unA, eqCells, eqCell, negB, fillA, storeA, Ob.with, indexedI, V.oneCell, intOf?, resA, resA1, packR, sealDepth, Int.reduceLT, Int.reduceLE, Int.reduceToNat, Int.reduceNeg, Int.reduceAdd, Int.reduceSub, Int.reduceMul, cond_true, cond_false, Int.reduceBNe, Int.reduceBEq, eq_self, deads, List.replicate, argsF, am48, isNil, q1, q2, g, plain_bool]
theorem node_spec {N n : Nat} (hn : 1 ≤ n) {H : Heap} {x : V} {D : Dv} (h : Looks H x D) (i : Int) : callA am N n 50 [x, .int .i64 i] H = some (.bool (decide (i ≥ 0) && decide (i < (D.n : Int))), H) := by
  obtain ⟨n, rfl⟩ : ∃ m, n = m + 1 := ⟨n - 1, by omega⟩
  obtain ⟨cap, ha⟩ := look_args2 h i
  have ok := h.1
  have q1 := fun X => @dv_len D X ok.e8
  have q2 := fun X => @dv_n D X ok.e8
  refine call_look at50 rfl rfl (by decide) ha (sx_wp ?_)
  unfold Dv.seen
  simp +contextual -implicitDefEqProofs (maxSteps := 10000000) only [sxb, plainD, stays, ↓selV_wt, ↓selV_wf, ↓impB_wt, ↓impB_wf, ↓selV_nor, ↓impB_nor, ↓selV_nt, ↓selV_nf, ↓impB_nt, ↓impB_nf, ↓selV_true, ↓selV_false, ↓selV_and, ↓impB_true, ↓impB_false, ↓impB_and, ↓prim_pick, ↓selV_nn, ↓impB_nn, doOp, get, ins, del, dels, Nat.reduceLT, Nat.reduceEqDiff, ↓reduceIte, reduceCtorEq, ne_eq, implies_true, prim, YLD, mkA, V.cells, Nat.reduceAdd, Nat.reduceSub, Nat.reduceMul, Nat.reduceLeDiff, loadA, cellsAt, nAg, packA, List.drop, List.take, List.head?, binA, unA, eqCells, eqCell, negB, fillA, storeA, Ob.with, indexedI, V.oneCell, intOf?, resA, resA1, packR, sealDepth, Int.reduceLT, Int.reduceLE, Int.reduceToNat, Int.reduceNeg, Int.reduceAdd, Int.reduceSub, Int.reduceMul, cond_true, cond_false, Int.reduceBNe, Int.reduceBEq, eq_self, deads, List.replicate, argsF, am50, isNil, q1, q2, plain_bool]
def Dv.isNode (D : Dv) (i : Int) : Bool := decide (i ≥ 0) && decide (i < (D.n : Int))
def Dv.ep (D : Dv) (i : Int) : Int := D.E.getD i.toNat 0
theorem isNode_true {D : Dv} {i : Int} (h : D.isNode i = true) : 0 ≤ i ∧ i < D.n := by
  simpa [Dv.isNode] using h
theorem epoch_spec {N n : Nat} (hn : 2 ≤ n) {H : Heap} {x : V} {D : Dv} (h : Looks H x D) (i : Int) : callA am N n 19 [x, .int .i64 i] H = some (.tup (bif D.isNode i then [.int .i64 (D.ep i), .int .i64 0] else [.int .i64 0, .int .i64 2]), H) := by
  obtain ⟨n, rfl⟩ : ∃ m, n = m + 1 := ⟨n - 1, by omega⟩
  obtain ⟨cap, ha⟩ := look_args2 h i
  have ok := h.1
  have q1 := fun X => @dv_len D X ok.e8
  have c48 := fun H => @there_spec N n (by omega) H _ _ (looks_i (H := H) ok cap)
  have c50 := fun H => @node_spec N n (by omega) H _ _ (looks_i (H := H) ok cap) i
  rw [show (decide (i ≥ 0) && decide (i < (D.n : Int))) = D.isNode i from rfl] at c50
  refine call_look at19 rfl rfl (by decide) ha (sx_wp ?_)
  unfold Dv.seen at *
  cases g : D.isNode i with
  | false =>
    simp +contextual -implicitDefEqProofs (maxSteps := 10000000) only [sxb, plainD, stays, ↓selV_wt, ↓selV_wf, ↓impB_wt, ↓impB_wf, ↓selV_nor, ↓impB_nor, ↓selV_nt, ↓selV_nf, ↓impB_nt, ↓impB_nf, ↓selV_true, ↓selV_false, ↓selV_and, ↓impB_true, ↓impB_false, ↓impB_and, ↓prim_pick, ↓selV_nn, ↓impB_nn, doOp, get, ins, del, dels, Nat.reduceLT, Nat.reduceEqDiff, ↓reduceIte, reduceCtorEq, ne_eq, implies_true, prim, YLD, mkA, V.cells, Nat.reduceAdd, Nat.reduceSub, Nat.reduceMul, Nat.reduceLeDiff, loadA, cellsAt, nAg, packA, List.drop, List.take, List.head?, binA, unA, eqCells, eqCell, negB, fillA, storeA, Ob.with, indexedI, V.oneCell, intOf?, resA, resA1, packR, sealDepth, Int.reduceLT, Int.reduceLE, Int.reduceToNat, Int.reduceNeg, Int.reduceAdd, Int.reduceSub, Int.reduceMul, cond_true, cond_false, Int.reduceBNe, Int.reduceBEq, eq_self, deads, List.replicate, argsF, am19, isNil, c48, c50, g]
    rfl
  | true =>
    obtain ⟨g1, g2⟩ := isNode_true g
    have := ok.n8
    have i8 : i < 8 := by omega
    have i7 : 1 + i.toNat + 1 ≤ 14 := by omega
    have q2 := fun X => @dv_e D X ok.e8 i.toNat (by omega)
    simp +contextual -implicitDefEqProofs (maxSteps := 10000000) only [sxb, plainD, stays, ↓selV_wt, ↓selV_wf, ↓impB_wt, ↓impB_wf, ↓selV_nor, ↓impB_nor, ↓selV_nt, ↓selV_nf, ↓impB_nt, ↓impB_nf, ↓selV_true, ↓selV_false, ↓selV_and, ↓impB_true, ↓impB_false, ↓impB_and, ↓prim_pick, ↓selV_nn, ↓impB_nn, doOp, get, ins, del, dels, Nat.reduceLT, Nat.reduceEqDiff, ↓reduceIte, reduceCtorEq, ne_eq, implies_true, prim, YLD, mkA, V.cells, Nat.reduceAdd, Nat.reduceSub, Nat.reduceMul, Nat.reduceLeDiff, loadA, cellsAt, nAg, packA, List.drop, List.take, List.head?, binA, unA, eqCells, eqCell, negB, fillA, storeA, Ob.with, indexedI, V.oneCell, intOf?, resA, resA1, packR, sealDepth, Int.reduceLT, Int.reduceLE, Int.reduceToNat, Int.reduceNeg, Int.reduceAdd, Int.reduceSub, Int.reduceMul, cond_true, cond_false, Int.reduceBNe, Int.reduceBEq, eq_self, deads, List.replicate, argsF, am19, isNil, c48, c50, g, q1, q2, g1, i8, i7]
    exact ⟨rfl, rfl⟩
def zeroS : List Int := List.replicate 64 0
def Dv.at (D : Dv) (i : Int) : List Int := D.S.getD i.toNat zeroS
end Go.Am.T


set_option linter.unusedVariables false
set_option linter.unusedSimpArgs false
set_option maxRecDepth 10000
namespace Go.Am.T
attribute [local congr] selV_congr impB_congr
def Dv.rl (D : Dv) : Int := bif D.cut then D.left else -1
def Dv.eps (D : Dv) : List Int := D.E.take D.n
def Dv.rcs (D : Dv) (X Y : V) : List V := [X, Y, .int .i64 D.rl, .bool D.lost, .int .i64 D.done]
structure RAt (H : Heap) (r s e : Nat) (D : Dv) : Prop where
  ok : D.Ok
  ob : ∃ ver cap ver' cap', H[r]? = some ⟨1, .var (D.rcs (.view s ver 0 D.S.length 64 cap) (.view e ver' 0 D.n 1 cap'))⟩ ∧ H[s]? = some ⟨ver, .arr (D.S.flatten.map (V.int .u8))⟩ ∧ H[e]? = some ⟨ver', .arr (D.eps.map (V.int .i64))⟩
  rs : r ≠ s
  re : r ≠ e
  se : s ≠ e
theorem eps_len {D : Dv} (h : D.Ok) : D.eps.length = D.n := by
  have := h.e8
  have := h.n8
  simp [Dv.eps]; omega
def Dv.rseen (D : Dv) (cap cap' : Option Nat) : V := .iptr (D.rcs (.sl (D.S.map secV) 64 cap) (.sl (D.eps.map (V.int .i64)) 1 cap')) 0
theorem one_pieces (k : IntKind) (l : List Int) : (List.range l.length).map (fun i => wrapV (((l.map (V.int k)).drop (i * 1)).take 1)) = l.map (V.int k) := by
  refine List.ext_getElem? fun i => ?_
  rw [List.getElem?_map, List.getElem?_map]
  by_cases hi : i < l.length
  · rw [List.getElem?_range hi, List.getElem?_eq_getElem hi]
    simp only [Option.map_some, Nat.mul_one]
    rw [← List.map_drop, List.drop_eq_getElem_cons hi]
    rfl
  · rw [List.getElem?_eq_none (by simpa using hi), List.getElem?_eq_none (by omega)]; rfl
theorem shut_ints {H : Heap} {o ver : Nat} {k : IntKind} {l : List Int} {cap : Option Nat} (ho : H[o]? = some ⟨ver, .arr (l.map (V.int k))⟩) (d : Nat) :
    V.shut (fun o => H[o]?) (d + 2) (.view o ver 0 l.length 1 cap) = some (.sl (l.map (V.int k)) 1 cap) := by
  have hl : loadA (fun o => H[o]?) (l.length * 1) (.ptr o ver 0) = some (l.map (V.int k)) := by
    simp only [loadA, cellsAt, ho, ↓reduceIte, Nat.zero_add, List.length_map, Nat.mul_one, Nat.le_refl, List.drop_zero]
    rw [List.take_of_length_le (by rw [List.length_map]; exact Nat.le_refl _)]
  have hm : (l.map (V.int k)).mapM (V.shut (fun o => H[o]?) (d + 1)) = some (l.map (V.int k)) := mapM_self fun x hx => by
    obtain ⟨y, -, rfl⟩ := List.mem_map.1 hx
    exact shut_plain rfl
  show (if V.free (.view o ver 0 l.length 1 cap) = true then _ else _) = _
  rw [if_neg (by simp [V.free])]
  simp only [hl, hm, ints_one, ↓reduceIte, one_pieces k l]
theorem RAt.shut {H : Heap} {r s e : Nat} {D : Dv} (h : RAt H r s e D) : ∃ cap cap', V.shut (fun o => H[o]?) sealDepth (.ptr r 1 0) = some (D.rseen cap cap') := by
  obtain ⟨ver, cap, ver', cap', hr, hs, he⟩ := h.ob
  refine ⟨cap, cap', ?_⟩
  have e : V.shut (fun o => H[o]?) sealDepth (.ptr r 1 0) = match cellsAt (fun o => H[o]?) r 1 with
      | some all => (all.mapM (V.shut (fun o => H[o]?) 63)).map fun cs => .iptr cs 0
      | none => none := rfl
  have q := shut_ints (cap := cap') he 61
  rw [eps_len h.ok] at q
  have hp : ∀ v : V, v.free = true → V.shut (fun o => H[o]?) 63 v = some v := fun v hv => shut_plain (d := 62) hv
  rw [e]
  simp only [cellsAt, hr, ↓reduceIte, Dv.rcs, List.mapM_cons, List.mapM_nil, shut_secs h.ok.sec hs 61, q, hp (.int .i64 _) rfl, hp (.bool _) rfl, Option.bind_eq_bind, Option.bind_some, Option.pure_def, Option.map_some]
  rfl
def RLooks (H : Heap) (x : V) (D : Dv) : Prop := D.Ok ∧ ∃ cap cap', V.shut (fun o => H[o]?) sealDepth x = some (D.rseen cap cap')
theorem RAt.looks {H : Heap} {r s e : Nat} {D : Dv} (h : RAt H r s e D) : RLooks H (.ptr r 1 0) D := ⟨h.ok, h.shut⟩
end Go.Am.T


set_option linter.unusedVariables false
set_option linter.unusedSimpArgs false
set_option maxRecDepth 10000
namespace Go.Am.T
attribute [local congr] selV_congr impB_congr
theorem e8_cases {l : List Int} (h : l.length = 8) : ∃ a b c d e f g i, l = [a, b, c, d, e, f, g, i] := by
  match l, h with
  | [a, b, c, d, e, f, g, i], _ => exact ⟨a, b, c, d, e, f, g, i, rfl⟩
section
variable {D : Dv} {X : V}
theorem dv_setCut (h : D.E.length = 8) (v : Bool) : setRange (D.cs X) 10 [.bool v] = ({ D with cut := v } : Dv).cs X := by
  obtain ⟨S, E, n, cut, left, lost, done⟩ := D
  obtain ⟨e0, e1, e2, e3, e4, e5, e6, e7, rfl⟩ := e8_cases h
  rfl
theorem dv_setLeft (h : D.E.length = 8) (v : Int) : setRange (D.cs X) 11 [.int .i64 v] = ({ D with left := v } : Dv).cs X := by
  obtain ⟨S, E, n, cut, left, lost, done⟩ := D
  obtain ⟨e0, e1, e2, e3, e4, e5, e6, e7, rfl⟩ := e8_cases h
  rfl
theorem dv_setLost (h : D.E.length = 8) (v : Bool) : setRange (D.cs X) 12 [.bool v] = ({ D with lost := v } : Dv).cs X := by
  obtain ⟨S, E, n, cut, left, lost, done⟩ := D
  obtain ⟨e0, e1, e2, e3, e4, e5, e6, e7, rfl⟩ := e8_cases h
  rfl
theorem dv_setDone (h : D.E.length = 8) (v : Int) : setRange (D.cs X) 13 [.int .i64 v] = ({ D with done := v } : Dv).cs X := by
  obtain ⟨S, E, n, cut, left, lost, done⟩ := D
  obtain ⟨e0, e1, e2, e3, e4, e5, e6, e7, rfl⟩ := e8_cases h
  rfl
theorem dv_setE (h : D.E.length = 8) {i : Nat} (hi : i < 8) (v : Int) : setRange (D.cs X) (1 + i) [.int .i64 v] = ({ D with E := D.E.set i v } : Dv).cs X := by
  obtain ⟨S, E, n, cut, left, lost, done⟩ := D
  obtain ⟨e0, e1, e2, e3, e4, e5, e6, e7, rfl⟩ := e8_cases h
  match i, hi with
  | 0, _ => rfl
  | 1, _ => rfl
  | 2, _ => rfl
  | 3, _ => rfl
  | 4, _ => rfl
  | 5, _ => rfl
  | 6, _ => rfl
  | 7, _ => rfl
end
def Dv.lose (D : Dv) : Dv := { D with lost := true }
def Dv.tick (D : Dv) : Dv := { D with left := bif D.cut then D.left - 1 else D.left, done := IntKind.i64.wrap (D.done + 1) }
def Dv.out (D : Dv) : Bool := D.cut && (D.left == 0)
theorem Dv.Ok.lose {D : Dv} (h : D.Ok) : D.lose.Ok := ⟨h.e8, h.n1, h.n8, h.s1, h.s4, h.sec, h.l0, h.l1, h.z, h.eb⟩
theorem Dv.Ok.tick {D : Dv} (h : D.Ok) (ho : D.out = false) : D.tick.Ok := by
  have := h.l1
  refine ⟨h.e8, h.n1, h.n8, h.s1, h.s4, h.sec, fun hc => ?_, ?_, h.z, h.eb⟩
  · have hc' : D.cut = true := hc
    have := h.l0 hc'
    have e : D.tick.left = D.left - 1 := by simp [Dv.tick, hc']
    simp [Dv.out, hc'] at ho
    omega
  · unfold Dv.tick
    cases hc : D.cut with
    | false => exact h.l1
    | true => show D.left - 1 ≤ _; omega
def Dv.who (D : Dv) (i e : Int) (more : Bool) : Int :=
  bif (!D.isNode i || (decide (e < 0) || (decide (e > D.ep i) || !more))) then 2 else (bif decide (e < D.ep i) then 8 else 0)
theorem who_spec {N n : Nat} (hn : 2 ≤ n) {H : Heap} {x : V} {D : Dv} (h : Looks H x D) (i e : Int) (more : Bool) : callA am N n 52 [x, .int .i64 i, .int .i64 e, .bool more] H = some (.int .i64 (D.who i e more), H) := by
  obtain ⟨n, rfl⟩ : ∃ m, n = m + 1 := ⟨n - 1, by omega⟩
  obtain ⟨-, cap, he⟩ := id h
  have ha : [x, .int .i64 i, .int .i64 e, .bool more].mapM (V.shut (fun o => H[o]?) sealDepth) = some [D.seen cap, .int .i64 i, .int .i64 e, .bool more] := by rw [List.mapM_cons, he]; rfl
  have ok := h.1
  have q1 := fun X => @dv_len D X ok.e8
  have c48 := fun H => @there_spec N n (by omega) H _ _ (looks_i (H := H) ok cap)
  have c50 := fun H => @node_spec N n (by omega) H _ _ (looks_i (H := H) ok cap) i
  rw [show (decide (i ≥ 0) && decide (i < (D.n : Int))) = D.isNode i from rfl] at c50
  refine call_look at52 rfl rfl (by decide) ha (sx_wp ?_)
  unfold Dv.seen at *
  cases g : D.isNode i with
  | false =>
    have e1 : D.who i e more = 2 := by simp [Dv.who, g]
    simp +contextual -implicitDefEqProofs (maxSteps := 10000000) only [sxb, plainD, stays, ↓selV_wt, ↓selV_wf, ↓impB_wt, ↓impB_wf, ↓selV_nor, ↓impB_nor, ↓selV_nt, ↓selV_nf, ↓impB_nt, ↓impB_nf, ↓selV_true, ↓selV_false, ↓selV_and, ↓impB_true, ↓impB_false, ↓impB_and, ↓prim_pick, ↓selV_nn, ↓impB_nn, doOp, get, ins, del, dels, Nat.reduceLT, Nat.reduceEqDiff, ↓reduceIte, reduceCtorEq, ne_eq, implies_true, prim, YLD, mkA, V.cells, Nat.reduceAdd, Nat.reduceSub, Nat.reduceMul, Nat.reduceLeDiff, loadA, cellsAt, nAg, packA, List.drop, List.take, List.head?, binA, unA, eqCells, eqCell, negB, fillA, storeA, Ob.with, indexedI, V.oneCell, intOf?, resA, resA1, packR, sealDepth, Int.reduceLT, Int.reduceLE, Int.reduceToNat, Int.reduceNeg, Int.reduceAdd, Int.reduceSub, Int.reduceMul, cond_true, cond_false, Int.reduceBNe, Int.reduceBEq, eq_self, deads, List.replicate, argsF, am52, isNil, c48, c50, pm48, pm50, g, e1, plain_int]
  | true =>
    obtain ⟨g1, g2⟩ := isNode_true g
    have := ok.n8
    have i8 : i < 8 := by omega
    have i7 : 1 + i.toNat + 1 ≤ 14 := by omega
    have q2 := fun X => @dv_e D X ok.e8 i.toNat (by omega)
    have e0 : D.E.getD i.toNat 0 = D.ep i := rfl
    cases g3 : (decide (e < 0) || (decide (e > D.ep i) || !more)) with
    | true =>
      have e1 : D.who i e more = 2 := by simp [Dv.who, g, g3]
      simp +contextual -implicitDefEqProofs (maxSteps := 10000000) only [sxb, plainD, stays, ↓selV_wt, ↓selV_wf, ↓impB_wt, ↓impB_wf, ↓selV_nor, ↓impB_nor, ↓selV_nt, ↓selV_nf, ↓impB_nt, ↓impB_nf, ↓selV_true, ↓selV_false, ↓selV_and, ↓impB_true, ↓impB_false, ↓impB_and, ↓prim_pick, ↓selV_nn, ↓impB_nn, doOp, get, ins, del, dels, Nat.reduceLT, Nat.reduceEqDiff, ↓reduceIte, reduceCtorEq, ne_eq, implies_true, prim, YLD, mkA, V.cells, Nat.reduceAdd, Nat.reduceSub, Nat.reduceMul, Nat.reduceLeDiff, loadA, cellsAt, nAg, packA, List.drop, List.take, List.head?, binA, unA, eqCells, eqCell, negB, fillA, storeA, Ob.with, indexedI, V.oneCell, intOf?, resA, resA1, packR, sealDepth, Int.reduceLT, Int.reduceLE, Int.reduceToNat, Int.reduceNeg, Int.reduceAdd, Int.reduceSub, Int.reduceMul, cond_true, cond_false, Int.reduceBNe, Int.reduceBEq, eq_self, deads, List.replicate, argsF, am52, isNil, c48, c50, pm48, pm50, g, q1, q2, g1, i8, i7, e0, e1, g3, plain_int]
    | false =>
      cases g4 : decide (e < D.ep i) with
      | true =>
        have e1 : D.who i e more = 8 := by simp only [Dv.who, g, g3, g4]; rfl
        simp +contextual -implicitDefEqProofs (maxSteps := 10000000) only [sxb, plainD, stays, ↓selV_wt, ↓selV_wf, ↓impB_wt, ↓impB_wf, ↓selV_nor, ↓impB_nor, ↓selV_nt, ↓selV_nf, ↓impB_nt, ↓impB_nf, ↓selV_true, ↓selV_false, ↓selV_and, ↓impB_true, ↓impB_false, ↓impB_and, ↓prim_pick, ↓selV_nn, ↓impB_nn, doOp, get, ins, del, dels, Nat.reduceLT, Nat.reduceEqDiff, ↓reduceIte, reduceCtorEq, ne_eq, implies_true, prim, YLD, mkA, V.cells, Nat.reduceAdd, Nat.reduceSub, Nat.reduceMul, Nat.reduceLeDiff, loadA, cellsAt, nAg, packA, List.drop, List.take, List.head?, binA, unA, eqCells, eqCell, negB, fillA, storeA, Ob.with, indexedI, V.oneCell, intOf?, resA, resA1, packR, sealDepth, Int.reduceLT, Int.reduceLE, Int.reduceToNat, Int.reduceNeg, Int.reduceAdd, Int.reduceSub, Int.reduceMul, cond_true, cond_false, Int.reduceBNe, Int.reduceBEq, eq_self, deads, List.replicate, argsF, am52, isNil, c48, c50, pm48, pm50, g, q1, q2, g1, i8, i7, e0, e1, g3, g4, plain_int]
      | false =>
        have e1 : D.who i e more = 0 := by simp only [Dv.who, g, g3, g4]; rfl
        simp +contextual -implicitDefEqProofs (maxSteps := 10000000) only [sxb, plainD, stays, ↓selV_wt, ↓selV_wf, ↓impB_wt, ↓impB_wf, ↓selV_nor, ↓impB_nor, ↓selV_nt, ↓selV_nf, ↓impB_nt, ↓impB_nf, ↓selV_true, ↓selV_false, ↓selV_and, ↓impB_true, ↓impB_false, ↓impB_and, ↓prim_pick, ↓selV_nn, ↓impB_nn, doOp, get, ins, del, dels, Nat.reduceLT, Nat.reduceEqDiff, ↓reduceIte, reduceCtorEq, ne_eq, implies_true, prim, YLD, mkA, V.cells, Nat.reduceAdd, Nat.reduceSub, Nat.reduceMul, Nat.reduceLeDiff, loadA, cellsAt, nAg, packA, List.drop, List.take, List.head?, binA, unA, eqCells, eqCell, negB, fillA, storeA, Ob.with, indexedI, V.oneCell, intOf?, resA, resA1, packR, sealDepth, Int.reduceLT, Int.reduceLE, Int.reduceToNat, Int.reduceNeg, Int.reduceAdd, Int.reduceSub, Int.reduceMul, cond_true, cond_false, Int.reduceBNe, Int.reduceBEq, eq_self, deads, List.replicate, argsF, am52, isNil, c48, c50, pm48, pm50, g, q1, q2, g1, i8, i7, e0, e1, g3, g4, plain_int]
end Go.Am.T


set_option linter.unusedVariables false
set_option linter.unusedSimpArgs false
set_option maxRecDepth 10000
namespace Go.Am.T
attribute [local congr] selV_congr impB_congr
theorem does_no {N n : Nat} {H : Heap} {d : Nat} {D : Dv} {X : V} (hd : H[d]? = some ⟨1, .var (D.cs X)⟩) (ok : D.Ok) (ho : D.out = true) (t : V) : callA am N (n + 1) 53 [.ptr d 1 0, t] H = some (.bool false, H.set d ⟨1, .var (D.lose.cs X)⟩) := by
  have e8 := ok.e8
  have q1 := @dv_len D X e8
  have qc := @dv_cut D X e8
  have ql := @dv_left D X e8
  have sl : setRange (D.cs X) 12 [.bool true] = D.lose.cs X := @dv_setLost D X e8 true
  have hlt := lt_of_get hd
  simp only [Dv.out, Bool.and_eq_true] at ho
  obtain ⟨h1, h2⟩ := ho
  refine call_keep_eq at53 rfl rfl (by decide) (sx_wp ?_)
  generalize D.lose.cs X = cs' at *
  generalize D.cs X = cs at *
  simp +contextual -implicitDefEqProofs (maxSteps := 10000000) only [sxb, plainD, stays, ↓selV_wt, ↓selV_wf, ↓impB_wt, ↓impB_wf, ↓selV_nor, ↓impB_nor, ↓selV_nt, ↓selV_nf, ↓impB_nt, ↓impB_nf, ↓selV_true, ↓selV_false, ↓selV_and, ↓impB_true, ↓impB_false, ↓impB_and, ↓prim_pick, ↓selV_nn, ↓impB_nn, doOp, get, ins, del, dels, Nat.reduceLT, Nat.reduceEqDiff, ↓reduceIte, reduceCtorEq, ne_eq, implies_true, prim, YLD, mkA, V.cells, Nat.reduceAdd, Nat.reduceSub, Nat.reduceMul, Nat.reduceLeDiff, loadA, cellsAt, nAg, packA, List.drop, List.take, List.head?, binA, unA, eqCells, eqCell, negB, fillA, storeA, Ob.with, indexedI, V.oneCell, intOf?, resA, resA1, packR, sealDepth, Int.reduceLT, Int.reduceLE, Int.reduceToNat, Int.reduceNeg, Int.reduceAdd, Int.reduceSub, Int.reduceMul, cond_true, cond_false, Int.reduceBNe, Int.reduceBEq, eq_self, deads, List.replicate, argsF, am53, isNil, List.append_nil, hd, hlt, q1, qc, ql, sl, h1, h2]
theorem does_yes {N n : Nat} {H : Heap} {d : Nat} {D : Dv} {X : V} (hd : H[d]? = some ⟨1, .var (D.cs X)⟩) (ok : D.Ok) (ho : D.out = false) {g : FuncId} {caps : List V} {u : V} {H2 : Heap} (hg : g ≠ 1000000007)
    (hc : callA am N n g caps (H.set d ⟨1, .var (D.tick.cs X)⟩) = some (u, H2)) : callA am N (n + 1) 53 [.ptr d 1 0, .func g [] caps] H = some (.bool true, H2) := by
  have e8 := ok.e8
  have hlt := lt_of_get hd
  have gs : ∀ y : Ob, (H.set d y)[d]? = some y := fun y => List.getElem?_set_self hlt
  have ss : ∀ y z : Ob, (H.set d y).set d z = H.set d z := fun y z => List.set_set ..
  refine call_keep_eq at53 rfl rfl (by decide) (sx_wp ?_)
  cases hcut : D.cut with
  | false =>
    have q1 := @dv_len D X e8
    have qc := @dv_cut D X e8
    have qd := @dv_done D X e8
    have sd := @dv_setDone D X e8 (IntKind.i64.wrap (D.done + 1))
    have et : ({ D with done := IntKind.i64.wrap (D.done + 1) } : Dv) = D.tick := by simp [Dv.tick, hcut]
    rw [et] at sd
    rw [hcut] at qc
    generalize D.cs X = cs at *
    generalize D.tick.cs X = cs' at *
    simp +contextual -implicitDefEqProofs (maxSteps := 10000000) only [sxb, plainD, stays, ↓selV_wt, ↓selV_wf, ↓impB_wt, ↓impB_wf, ↓selV_nor, ↓impB_nor, ↓selV_nt, ↓selV_nf, ↓impB_nt, ↓impB_nf, ↓selV_true, ↓selV_false, ↓selV_and, ↓impB_true, ↓impB_false, ↓impB_and, ↓prim_pick, ↓selV_nn, ↓impB_nn, doOp, get, ins, del, dels, Nat.reduceLT, Nat.reduceEqDiff, ↓reduceIte, reduceCtorEq, ne_eq, implies_true, prim, YLD, mkA, V.cells, Nat.reduceAdd, Nat.reduceSub, Nat.reduceMul, Nat.reduceLeDiff, loadA, cellsAt, nAg, packA, List.drop, List.take, List.head?, binA, unA, eqCells, eqCell, negB, fillA, storeA, Ob.with, indexedI, V.oneCell, intOf?, resA, resA1, packR, sealDepth, Int.reduceLT, Int.reduceLE, Int.reduceToNat, Int.reduceNeg, Int.reduceAdd, Int.reduceSub, Int.reduceMul, cond_true, cond_false, Int.reduceBNe, Int.reduceBEq, eq_self, deads, List.replicate, argsF, am53, isNil, List.append_nil, hd, hlt, q1, qc, qd, sd, cvP_func hg, hc]
  | true =>
    have h0 : (D.left == 0) = false := by simpa [Dv.out, hcut] using ho
    have hl0 := ok.l0 hcut
    have hl1 := ok.l1
    have w : IntKind.i64.wrap (D.left - 1) = D.left - 1 := wrap64 (by omega) (by omega)
    have q1 := @dv_len D X e8
    have qc := @dv_cut D X e8
    have ql := @dv_left D X e8
    have sl := @dv_setLeft D X e8 (D.left - 1)
    have p1 := @dv_len ({ D with left := D.left - 1 } : Dv) X e8
    have pd := @dv_done ({ D with left := D.left - 1 } : Dv) X e8
    have sd := @dv_setDone ({ D with left := D.left - 1 } : Dv) X e8 (IntKind.i64.wrap (D.done + 1))
    have et : ({ ({ D with left := D.left - 1 } : Dv) with done := IntKind.i64.wrap (D.done + 1) } : Dv) = D.tick := by simp [Dv.tick, hcut]
    rw [et] at sd
    rw [hcut] at qc
    simp only at pd
    generalize D.cs X = cs at *
    generalize D.tick.cs X = cs' at *
    generalize ({ D with left := D.left - 1 } : Dv).cs X = cs1 at *
    simp +contextual -implicitDefEqProofs (maxSteps := 10000000) only [sxb, plainD, stays, ↓selV_wt, ↓selV_wf, ↓impB_wt, ↓impB_wf, ↓selV_nor, ↓impB_nor, ↓selV_nt, ↓selV_nf, ↓impB_nt, ↓impB_nf, ↓selV_true, ↓selV_false, ↓selV_and, ↓impB_true, ↓impB_false, ↓impB_and, ↓prim_pick, ↓selV_nn, ↓impB_nn, doOp, get, ins, del, dels, Nat.reduceLT, Nat.reduceEqDiff, ↓reduceIte, reduceCtorEq, ne_eq, implies_true, prim, YLD, mkA, V.cells, Nat.reduceAdd, Nat.reduceSub, Nat.reduceMul, Nat.reduceLeDiff, loadA, cellsAt, nAg, packA, List.drop, List.take, List.head?, binA, unA, eqCells, eqCell, negB, fillA, storeA, Ob.with, indexedI, V.oneCell, intOf?, resA, resA1, packR, sealDepth, Int.reduceLT, Int.reduceLE, Int.reduceToNat, Int.reduceNeg, Int.reduceAdd, Int.reduceSub, Int.reduceMul, cond_true, cond_false, Int.reduceBNe, Int.reduceBEq, eq_self, deads, List.replicate, argsF, am53, isNil, List.append_nil, hd, hlt, q1, qc, ql, h0, w, sl, gs, ss, p1, pd, sd, cvP_func hg, hc]
end Go.Am.T

