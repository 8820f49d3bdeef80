/- Calls: on the caller's memory, or on one of their own; what comes back. -/
import Derived.Test.YtifbkofianklaaaAm20
set_option linter.unusedVariables false
set_option linter.unusedSimpArgs false
namespace Go.Am
variable {P : Program}

mutual
/-- No address of an object stands in it. -/
def V.free : (v : V) → Bool
  | .ptr .. | .view .. | .vend .. | .map .. | .yld .. => false
  | .iptr cs _ => V.freeL cs
  | .sl L _ _ => V.freeL L
  | .func _ xs ys => V.freeL xs && V.freeL ys
  | .iface _ v => V.free v
  | .agg cs => V.freeL cs
  | .tup cs => V.freeL cs
  | _ => true
  termination_by structural v => v
def V.freeL : (l : List V) → Bool
  | [] => true
  | v :: l => V.free v && V.freeL l
  termination_by structural l => l
end

theorem freeL_get : ∀ {l : List V}, V.freeL l = true → ∀ (i : Nat) (c : V), l[i]? = some c → c.free = true
  | [], _, i, c, h => by simp at h
  | v :: l, hf, i, c, h => by
    simp only [V.freeL, Bool.and_eq_true] at hf
    cases i with
    | zero => simp at h; subst h; exact hf.1
    | succ i => simp at h; exact freeL_get hf.2 i c h

theorem freeL_of : ∀ {l : List V}, (∀ c ∈ l, c.free = true) → V.freeL l = true
  | [], _ => rfl
  | v :: l, h => by
    have h1 := h v (by simp)
    have h2 := freeL_of (l := l) (fun c hc => h c (by simp [hc]))
    simp [V.freeL, h1, h2]

theorem free_cells {e : V} (h : e.free = true) : ∀ (j : Nat) (c : V), e.cells[j]? = some c → c.free = true := by
  have one : ∀ (j : Nat) (c : V), [e][j]? = some c → c.free = true := fun j c hc => by
    cases j with
    | zero => simp at hc; subst hc; exact h
    | succ j => simp at hc
  cases e with
  | agg cs => exact fun j c hc => freeL_get (l := cs) (by simpa [V.free] using h) j c hc
  | _ => exact one

theorem VRel.free {g g' : G} {w : World} {v : V} {x : Value} (h : VRel g w v x) (hi : ∀ b, g.imm b → g'.imm b) : v.free = true → VRel g' w v x := by
  induction h with
  | junk x => exact fun _ => .junk x
  | bool b => exact fun _ => .bool b
  | int k n => exact fun _ => .int k n
  | str s => exact fun _ => .str s
  | nilp => exact fun _ => .nilp
  | ptr o t off b base h => intro hf; simp [V.free] at hf
  | iptr cs off b base f h1 hc hv ih => exact fun hf => .iptr cs off b base f (hi _ h1) hc (fun j c hj => ih j c hj (freeL_get (by simpa [V.free] using hf) j c hj))
  | nils => exact fun _ => .nils
  | view o t off len s cap b base c n e h hl hk hs hn => intro hf; simp [V.free] at hf
  | vend o t s b base x c n e h hs hn => intro hf; simp [V.free] at hf
  | sl L s cap b off c f h1 hl hk hz hc hv ih =>
    exact fun hf => .sl L s cap b off c f (fun h => hi _ (h1 h)) hl hk hz hc (fun i e j x he hx => ih i e j x he hx (free_cells (freeL_get (by simpa [V.free] using hf) i e he) j x hx))
  | sl0 s cap a hk => exact fun _ => .sl0 s cap a hk
  | nilm => exact fun _ => .nilm
  | map o t b h => intro hf; simp [V.free] at hf
  | nilf => exact fun _ => .nilf
  | func f xs ys xs' ys' hx hy h1 h2 i1 i2 =>
    intro hf
    simp only [V.free, Bool.and_eq_true] at hf
    exact .func f xs ys xs' ys' hx hy (fun i x hi => i1 i x hi (freeL_get hf.1 i x hi)) (fun i x hi => i2 i x hi (freeL_get hf.2 i x hi))
  | yld o t b h => intro hf; simp [V.free] at hf
  | nili => exact fun _ => .nili
  | iface t v x h ih => exact fun hf => .iface t v x (ih (by simpa [V.free] using hf))
  | agg cs xs hx h ih => exact fun hf => .agg cs xs hx (fun i c hc => ih i c hc (freeL_get (by simpa [V.free] using hf) i c hc))
  | tup cs xs hx h ih => exact fun hf => .tup cs xs hx (fun i c hc => ih i c hc (freeL_get (by simpa [V.free] using hf) i c hc))

/-- What comes back from a memory that is given up: what lay there lies inside. -/
def V.shut (get : Nat → Option Ob) : Nat → V → Option V
  | 0, _ => none
  | d + 1, v =>
    if v.free then some v else
    match v with
    | .view o ver off len s cap =>
      match loadA get (len * s) (.ptr o ver off) with
      | some cs => match cs.mapM (V.shut get d) with
        | some cs => if cs.all V.oneCell then some (.sl ((List.range len).map fun i => wrapV ((cs.drop (i * s)).take s)) s cap) else none
        | none => none
      | none => none
    | .vend o ver s => match cellsAt get o ver with | some _ => some (.sl [] s none) | none => none
    | .agg cs => (cs.mapM (V.shut get d)).map .agg
    | .tup cs => (cs.mapM (V.shut get d)).map .tup
    | .iface t v => (V.shut get d v).map (.iface t)
    | .ptr o ver off => match cellsAt get o ver with
      | some all => (all.mapM (V.shut get d)).map fun cs => .iptr cs off
      | none => none
    | .func f xs ys => match xs.mapM (V.shut get d), ys.mapM (V.shut get d) with
      | some xs, some ys => some (.func f xs ys)
      | _, _ => none
    | _ => none

theorem mapM_get {f : V → Option V} : ∀ {l l' : List V}, l.mapM f = some l' → l'.length = l.length ∧ ∀ (i : Nat) (c : V), l'[i]? = some c → ∃ b, l[i]? = some b ∧ f b = some c
  | [], l', h => by simp at h; subst h; simp
  | x :: l, l', h => by
    simp only [List.mapM_cons, Option.bind_eq_bind, Option.bind_eq_some_iff, Option.pure_def, Option.some.injEq] at h
    obtain ⟨y, hy, l2, hl, rfl⟩ := h
    obtain ⟨h1, h2⟩ := mapM_get hl
    refine ⟨by simp [h1], fun i c hi => ?_⟩
    cases i with
    | zero => simp at hi; subst hi; exact ⟨x, rfl, hy⟩
    | succ i => simp at hi ⊢; exact h2 i c hi

def sealG (g : G) (h : Heap) : G := ⟨fun _ _ => none, fun b => g.imm b ∨ ∃ o, blk g h o = some b, g.code⟩

theorem wrapV_free {l : List V} (h : ∀ c ∈ l, c.free = true) : (wrapV l).free = true := by
  match l with
  | [] => rfl
  | [x] => exact h x (by simp)
  | x :: y :: l => exact freeL_of h

theorem sim_seal {g : G} {h : Heap} {w : World} (s : Sim g h w) : ∀ (d : Nat) (v v' : V) (x : Value), V.shut (fun o => h[o]?) d v = some v' → VRel g w v x → VRel (sealG g h) w v' x ∧ v'.free = true
  | 0, v, v', x, hs, _ => by simp [V.shut] at hs
  | d + 1, v, v', x, hs, hv => by
    have IH := sim_seal s d
    unfold V.shut at hs
    split at hs
    · rename_i hf
      cases hs
      exact ⟨hv.free (fun b hb => .inl hb) hf, hf⟩
    · rename_i hf
      split at hs
      · rename_i o ver off len sz cap
        split at hs
        case h_2 => cases hs
        rename_i cs hl
        split at hs
        case h_2 => cases hs
        rename_i cs' hm
        split at hs
        case isFalse => cases hs
        rename_i h1
        cases hs
        cases hv with
        | view _ _ _ _ _ _ b base c n e hg hlc hk hsh hn =>
          obtain ⟨b1, o1, xs, he, l1, l2, l3, l4⟩ := goes_loads s (.ptr o ver off b base hg) hl
          cases he
          obtain ⟨m1, m2⟩ := mapM_get hm
          have hlive : ∃ o, blk g h o = some b := by
            have : ∃ all, cellsAt (fun o => h[o]?) o ver = some all := by
              simp only [loadA] at hl
              split at hl
              · rename_i all ha; exact ⟨all, ha⟩
              · cases hl
            obtain ⟨all, ha⟩ := this
            obtain ⟨_, b', base', -, -, -, hg', hb, -⟩ := sim_cells s ha
            rw [hg] at hg'
            cases hg'
            exact ⟨o, hb⟩
          have hone : ∀ c ∈ cs', c.oneCell = true := fun c hc => by simpa using List.all_eq_true.1 h1 c hc
          have hcell : ∀ (i : Nat) (c : V), cs'[i]? = some c → ∃ y, xs[i]? = some y ∧ VRel (sealG g h) w c y ∧ c.free = true := by
            intro i c hc
            obtain ⟨b0, hb0, hsl⟩ := m2 i c hc
            have hlt : i < xs.length := by
              have : i < cs.length := by rcases Nat.lt_or_ge i cs.length with k | k; exact k; simp [List.getElem?_eq_none k] at hb0
              omega
            have hr := l4.2 i b0 _ hb0 (List.getElem?_eq_getElem hlt)
            obtain ⟨q1, q2⟩ := IH b0 c _ hsl hr
            exact ⟨_, List.getElem?_eq_getElem hlt, q1, q2⟩
          have hget : ∀ (i : Nat) (el : V), ((List.range len).map fun i => wrapV ((cs'.drop (i * sz)).take sz))[i]? = some el → i < len ∧ el = wrapV ((cs'.drop (i * sz)).take sz) ∧ el.cells = (cs'.drop (i * sz)).take sz ∧ ((cs'.drop (i * sz)).take sz).length = sz := by
            intro i el hel
            rcases Nat.lt_or_ge i len with hlt | hge
            · rw [List.getElem?_map, List.getElem?_range hlt] at hel
              simp only [Option.map_some, Option.some.injEq] at hel
              have hmul : (i + 1) * sz ≤ len * sz := Nat.mul_le_mul_right _ hlt
              rw [Nat.add_mul, Nat.one_mul] at hmul
              refine ⟨hlt, hel.symm, ?_, by simp; omega⟩
              rw [← hel]
              exact wrap_cells ((cs'.drop (i * sz)).take sz) (fun c hc => hone c (List.mem_of_mem_drop (List.mem_of_mem_take hc)))
            · rw [List.getElem?_eq_none (by simpa using hge)] at hel
              cases hel
          refine ⟨?_, ?_⟩
          · have := VRel.sl (g := sealG g h) (w := w) ((List.range len).map fun i => wrapV ((cs'.drop (i * sz)).take sz)) sz cap b (base + off) c (fun j => (xs[j]?).getD undef) (fun _ => .inr hlive) (by simpa using hlc) hk
              (fun i el hel => by rw [(hget i el hel).2.2.1]; exact (hget i el hel).2.2.2)
              (fun j hj => by
                simp only [List.length_map, List.length_range] at hj
                have hlt : j < xs.length := by omega
                rw [List.getElem?_eq_getElem hlt]
                exact l3 j _ (List.getElem?_eq_getElem hlt))
              (fun i el j x hel hx => by
                obtain ⟨hi1, -, hi2, hi3⟩ := hget i el hel
                rw [hi2, List.getElem?_take] at hx
                split at hx
                case isFalse => cases hx
                rw [List.getElem?_drop] at hx
                obtain ⟨y, hy, hr, -⟩ := hcell _ _ hx
                rw [hy]
                exact hr)
            simpa using this
          · refine freeL_of (fun el hel => ?_)
            obtain ⟨i, hi, rfl⟩ := List.getElem_of_mem hel
            obtain ⟨-, e1, -, -⟩ := hget i _ (List.getElem?_eq_getElem hi)
            rw [e1]
            refine wrapV_free (fun c hc => ?_)
            obtain ⟨k, hk', rfl⟩ := List.getElem_of_mem (List.mem_of_mem_drop (List.mem_of_mem_take hc))
            exact (hcell k _ (List.getElem?_eq_getElem hk')).choose_spec.2.2
      · rename_i o ver sz
        split at hs
        case h_2 => cases hs
        rename_i all ha
        cases hs
        cases hv with
        | vend _ _ _ b base x c n e hg hsh hn =>
          obtain ⟨_, b', base', -, -, -, hg', hb, -⟩ := sim_cells s ha
          rw [hg] at hg'
          cases hg'
          refine ⟨?_, rfl⟩
          have := VRel.sl (g := sealG g h) (w := w) [] sz none b x c (fun _ => undef) (fun _ => .inr ⟨o, hb⟩) (Nat.zero_le _) (fun k hk => by cases hk) (fun i e h => by simp at h) (fun j hj => by simp at hj) (fun i e j x h => by simp at h)
          exact this
      · rename_i cs
        simp only [Option.map_eq_some_iff] at hs
        obtain ⟨cs', hm, rfl⟩ := hs
        obtain ⟨m1, m2⟩ := mapM_get hm
        cases hv with
        | agg _ xs hx hc =>
          refine ⟨.agg cs' xs (by omega) (fun i c hi => ?_), freeL_of (fun c hc' => ?_)⟩
          · obtain ⟨b, hb, hsl⟩ := m2 i c hi
            exact (IH b c _ hsl (hc i b hb)).1
          · obtain ⟨i, hi, rfl⟩ := List.getElem_of_mem hc'
            obtain ⟨b, hb, hsl⟩ := m2 i _ (List.getElem?_eq_getElem hi)
            exact (IH b _ _ hsl (hc i b hb)).2
      · rename_i cs
        simp only [Option.map_eq_some_iff] at hs
        obtain ⟨cs', hm, rfl⟩ := hs
        obtain ⟨m1, m2⟩ := mapM_get hm
        cases hv with
        | tup _ xs hx hc =>
          refine ⟨.tup cs' xs (by omega) (fun i c hi => ?_), freeL_of (fun c hc' => ?_)⟩
          · obtain ⟨b, hb, hsl⟩ := m2 i c hi
            exact (IH b c _ hsl (hc i b hb)).1
          · obtain ⟨i, hi, rfl⟩ := List.getElem_of_mem hc'
            obtain ⟨b, hb, hsl⟩ := m2 i _ (List.getElem?_eq_getElem hi)
            exact (IH b _ _ hsl (hc i b hb)).2
      · rename_i t v
        simp only [Option.map_eq_some_iff] at hs
        obtain ⟨v2, hm, rfl⟩ := hs
        cases hv with
        | iface _ _ x h =>
          obtain ⟨q1, q2⟩ := IH _ _ _ hm h
          exact ⟨.iface _ _ _ q1, q2⟩
      · rename_i o ver off
        split at hs
        case h_2 => cases hs
        rename_i all ha
        simp only [Option.map_eq_some_iff] at hs
        obtain ⟨cs', hm, rfl⟩ := hs
        obtain ⟨m1, m2⟩ := mapM_get hm
        cases hv with
        | ptr _ _ _ b base hg =>
          obtain ⟨_, b', base', -, -, -, hg', hb, -, -, -, hlies⟩ := sim_cells s ha
          rw [hg] at hg'
          cases hg'
          have hcell : ∀ j, j < cs'.length → ∃ y, w.cell? (at_ b (base + j)) = some y ∧ ∀ c, cs'[j]? = some c → VRel (sealG g h) w c y ∧ c.free = true := by
            intro j hj
            obtain ⟨y, hy, hr⟩ := hlies j _ (List.getElem?_eq_getElem (by omega))
            refine ⟨y, hy, fun c hc => ?_⟩
            obtain ⟨b0, hb0, hsl⟩ := m2 j c hc
            rw [List.getElem?_eq_getElem (by omega)] at hb0
            cases hb0
            exact IH _ c _ hsl hr
          refine ⟨.iptr cs' off b base (fun j => (w.cell? (at_ b (base + j))).getD undef) (.inr ⟨o, hb⟩) (fun j hj => ?_) (fun j c hj => ?_), freeL_of (fun c hc => ?_)⟩
          · obtain ⟨y, hy, -⟩ := hcell j hj
            rw [hy]; rfl
          · have hlt : j < cs'.length := by rcases Nat.lt_or_ge j cs'.length with k | k; exact k; simp [List.getElem?_eq_none k] at hj
            obtain ⟨y, hy, hr⟩ := hcell j hlt
            rw [hy]
            exact (hr c hj).1
          · obtain ⟨j, hj, rfl⟩ := List.getElem_of_mem hc
            obtain ⟨y, hy, hr⟩ := hcell j hj
            exact (hr _ (List.getElem?_eq_getElem hj)).2
      · rename_i f xs ys
        split at hs
        case h_2 => cases hs
        rename_i xs' ys' hm1 hm2
        cases hs
        obtain ⟨m1, m2⟩ := mapM_get hm1
        obtain ⟨n1, n2⟩ := mapM_get hm2
        cases hv with
        | func _ _ _ X Y hX hY h1 h2 =>
          refine ⟨.func f xs' ys' X Y (by omega) (by omega) (fun i c hi => ?_) (fun i c hi => ?_), ?_⟩
          · obtain ⟨b, hb, hsl⟩ := m2 i c hi
            exact (IH b c _ hsl (h1 i b hb)).1
          · obtain ⟨b, hb, hsl⟩ := n2 i c hi
            exact (IH b c _ hsl (h2 i b hb)).1
          · simp only [V.free, Bool.and_eq_true]
            refine ⟨freeL_of (fun c hc' => ?_), freeL_of (fun c hc' => ?_)⟩
            · obtain ⟨i, hi, rfl⟩ := List.getElem_of_mem hc'
              obtain ⟨b, hb, hsl⟩ := m2 i _ (List.getElem?_eq_getElem hi)
              exact (IH b _ _ hsl (h1 i b hb)).2
            · obtain ⟨i, hi, rfl⟩ := List.getElem_of_mem hc'
              obtain ⟨b, hb, hsl⟩ := n2 i _ (List.getElem?_eq_getElem hi)
              exact (IH b _ _ hsl (h2 i b hb)).2
      · cases hs

mutual
/-- No address at all stands in it. -/
def V.plain : (v : V) → Bool
  | .bool _ | .int .. | .str _ | .nilp | .nils | .nilm | .nilf | .nili => true
  | .agg cs => V.plainL cs
  | .tup cs => V.plainL cs
  | .iface _ v => V.plain v
  | _ => false
  termination_by structural v => v
def V.plainL : (l : List V) → Bool
  | [] => true
  | v :: l => V.plain v && V.plainL l
  termination_by structural l => l
end

theorem plainL_get : ∀ {l : List V}, V.plainL l = true → ∀ (i : Nat) (c : V), l[i]? = some c → c.plain = true
  | [], _, i, c, h => by simp at h
  | v :: l, hf, i, c, h => by
    simp only [V.plainL, Bool.and_eq_true] at hf
    cases i with
    | zero => simp at h; subst h; exact hf.1
    | succ i => simp at h; exact plainL_get hf.2 i c h

theorem VRel.plain {g g' : G} {w w' : World} {v : V} {x : Value} (h : VRel g w v x) : v.plain = true → VRel g' w' v x := by
  induction h with
  | bool b => exact fun _ => .bool b
  | int k n => exact fun _ => .int k n
  | str s => exact fun _ => .str s
  | nilp => exact fun _ => .nilp
  | nils => exact fun _ => .nils
  | nilm => exact fun _ => .nilm
  | nilf => exact fun _ => .nilf
  | nili => exact fun _ => .nili
  | iface t v x h ih => exact fun hf => .iface t v x (ih (by simpa [V.plain] using hf))
  | agg cs xs hx h ih => exact fun hf => .agg cs xs hx (fun i c hc => ih i c hc (plainL_get (by simpa [V.plain] using hf) i c hc))
  | tup cs xs hx h ih => exact fun hf => .tup cs xs hx (fun i c hc => ih i c hc (plainL_get (by simpa [V.plain] using hf) i c hc))
  | _ => intro hf; simp [V.plain] at hf

mutual
theorem objs_free : ∀ (v : V), v.objs = [] → v.free = true
  | .ptr .., h | .view .., h | .vend .., h | .map .., h | .yld .., h => by simp [V.objs] at h
  | .iptr cs _, h => objsL_free cs (by simpa [V.objs] using h)
  | .sl L _ _, h => objsL_free L (by simpa [V.objs] using h)
  | .func _ xs ys, h => by
    simp only [V.objs, List.append_eq_nil_iff] at h
    simp only [V.free, Bool.and_eq_true]
    exact ⟨objsL_free xs h.1, objsL_free ys h.2⟩
  | .iface _ v, h => objs_free v (by simpa [V.objs] using h)
  | .agg cs, h => objsL_free cs (by simpa [V.objs] using h)
  | .tup cs, h => objsL_free cs (by simpa [V.objs] using h)
  | .junk, _ | .bool _, _ | .int .., _ | .str _, _ | .nilp, _ | .nils, _ | .nilm, _ | .nilf, _ | .nili, _ => rfl
  termination_by structural v => v
theorem objsL_free : ∀ (l : List V), V.objsL l = [] → V.freeL l = true
  | [], _ => rfl
  | v :: l, h => by
    simp only [V.objsL, List.append_eq_nil_iff] at h
    simp only [V.freeL, Bool.and_eq_true]
    exact ⟨objs_free v h.1, objsL_free l h.2⟩
  termination_by structural l => l
end

theorem mapM_congr {f f' : V → Option V} : ∀ {l : List V}, (∀ c ∈ l, f c = f' c) → l.mapM f = l.mapM f'
  | [], _ => rfl
  | x :: l, h => by
    rw [List.mapM_cons, List.mapM_cons, h x (by simp), mapM_congr (l := l) (fun c hc => h c (by simp [hc]))]

theorem shut_free {get get' : Nat → Option Ob} {d : Nat} {v : V} (h : v.free = true) : V.shut get d v = V.shut get' d v := by
  cases d with
  | zero => rfl
  | succ d => unfold V.shut; rw [if_pos h, if_pos h]

theorem mem_objsL {l : List V} {c : V} (hc : c ∈ l) : ∀ o ∈ c.objs, o ∈ V.objsL l := by
  obtain ⟨i, hi, rfl⟩ := List.getElem_of_mem hc
  exact objsL_get (List.getElem?_eq_getElem hi)

/-- What comes back hangs on the objects that are named alone, where those name no others. -/
theorem shut_local {get get' : Nat → Option Ob} : ∀ (d : Nat) (v : V), (∀ o ∈ v.objs, get o = get' o) → (∀ o ∈ v.objs, ∀ x, get o = some x → x.bd.objs = []) → V.shut get d v = V.shut get' d v
  | 0, v, _, _ => rfl
  | d + 1, v, ha, hf => by
    have IH := shut_local (get := get) (get' := get') d
    have cells : ∀ o ver cs, o ∈ v.objs → cellsAt get o ver = some cs → ∀ c ∈ cs, c.free = true := by
      intro o ver cs ho hc c hm
      obtain ⟨x, hx, hbd⟩ : ∃ x, get o = some x ∧ (x.bd = .var cs ∨ x.bd = .arr cs) := by
        unfold cellsAt at hc
        split at hc
        · rename_i v' cs' he
          split at hc
          · cases hc; exact ⟨_, he, .inl rfl⟩
          · cases hc
        · rename_i v' cs' he
          split at hc
          · cases hc; exact ⟨_, he, .inr rfl⟩
          · cases hc
        · cases hc
      have h0 := hf o ho x hx
      have : V.objsL cs = [] := by rcases hbd with e | e <;> simpa [e, Bd.objs] using h0
      obtain ⟨i, hi, rfl⟩ := List.getElem_of_mem hm
      exact freeL_get (objsL_free cs this) i _ (List.getElem?_eq_getElem hi)
    have rec_ : ∀ (cs : List V), (∀ o, o ∈ V.objsL cs → o ∈ v.objs) → cs.mapM (V.shut get d) = cs.mapM (V.shut get' d) := fun cs hs =>
      mapM_congr (fun c hc => IH c (fun o ho => ha o (hs o (mem_objsL hc o ho))) (fun o ho => hf o (hs o (mem_objsL hc o ho))))
    unfold V.shut
    cases v with
    | view o ver off len s cap =>
      have e : cellsAt get o ver = cellsAt get' o ver := cellsAt_local (ha o (by simp [V.objs]))
      simp only [loadA, ← e]
      cases hc : cellsAt get o ver with
      | none => rfl
      | some all =>
        have hfr := cells o ver all (by simp [V.objs]) hc
        simp only
        rcases Nat.lt_or_ge all.length (off + len * s) with hlt | hge
        · simp only [if_neg (show ¬ off + len * s ≤ all.length by omega)]
        · simp only [if_pos hge]
          rw [mapM_congr (f' := V.shut get' d) (fun c hc => shut_free (hfr c (List.mem_of_mem_drop (List.mem_of_mem_take hc))))]
    | vend o ver s =>
      have e : cellsAt get o ver = cellsAt get' o ver := cellsAt_local (ha o (by simp [V.objs]))
      simp only [← e]
    | ptr o ver off =>
      have e : cellsAt get o ver = cellsAt get' o ver := cellsAt_local (ha o (by simp [V.objs]))
      simp only [← e]
      cases hc : cellsAt get o ver with
      | none => rfl
      | some all =>
        simp only
        rw [mapM_congr (f' := V.shut get' d) (fun c hm => shut_free (cells o ver all (by simp [V.objs]) hc c hm))]
    | func f xs ys =>
      simp only
      rw [rec_ xs (fun o ho => by simp [V.objs, ho]), rec_ ys (fun o ho => by simp [V.objs, ho])]
    | agg cs => simp only; rw [rec_ cs (fun o ho => by simp only [V.objs]; exact ho)]
    | tup cs => simp only; rw [rec_ cs (fun o ho => by simp only [V.objs]; exact ho)]
    | iface t v => simp only; rw [IH v (fun o ho => ha o (by simpa [V.objs] using ho)) (fun o ho => hf o (by simpa [V.objs] using ho))]
    | _ => rfl

end Go.Am
