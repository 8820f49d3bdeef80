/- Operation by operation: append and copy, whole. -/
import Derived.Test.YtifbkofianklaaaAm7
set_option linter.unusedVariables false
set_option linter.unusedSimpArgs false
namespace Go.Am
variable {P : Program}

/-- What stays within the room that is known. -/
theorem goes_append_room {g : G} {h : Heap} {w : World} (s : Sim g h w) {st xt e tt : TypeId} {i : TypeInfo} {z : Value} {sz by' : Nat} {zc : List V} (ok : ElemOk P st e i z sz by' zc)
    {o ver off len c n : Nat} {cap : Option Nat} {b base : Nat} {Y : Value} {new : List V} {news : List Value} (src : Src P sz xt Y n news w) (hnew : Cells g w new news)
    (hg : g.loc o ver = some (b, base)) (hk : ∀ k, cap = some k → c = k) {N : Nat} (hs : w.shape? b = some (e, N) ∨ ∃ e', w.shape? b = some (e', N)) (hn : cap = none → base + off + c * sz = N) (hroom : len + n ≤ c)
    {eff : Eff} (he : storeA (fun o => h[o]?) o ver (off + len * sz) new (.view o ver off (len + n) sz cap) = some eff) :
    EffGoes P (Builtin.append_ #[st, xt] tt #[.slice (some (at_ b (base + off))) len c, Y]) g h w eff := by
  obtain ⟨w', h', rfl, hrun, hs', hext⟩ := goes_storeA (P := P) s he hg news hnew src.one
  obtain ⟨e', hs⟩ : ∃ e', w.shape? b = some (e', N) := by rcases hs with h | h; exact ⟨_, h⟩; exact h
  -- the world that the stores leave
  have hcs : ∃ cs, cellsAt (fun o => h[o]?) o ver = some cs ∧ off + len * sz + new.length ≤ cs.length := by
    unfold storeA at he
    split at he
    · rename_i cs x hc hx
      split at he
      · exact ⟨cs, hc, by assumption⟩
      · cases he
    · cases he
  obtain ⟨cs, hc, hle⟩ := hcs
  obtain ⟨x, b', base', -, -, -, hg', -, -, -, hfz, hlies⟩ := sim_cells s hc
  rw [hg] at hg'
  cases hg'
  have hcell : ∀ j, j < news.length → ∃ y, w.cell? ⟨b, base + off + len * sz + j, none⟩ = some y := by
    intro j hj
    obtain ⟨y, hy, -⟩ := hlies (off + len * sz + j) _ (List.getElem?_eq_getElem (by have := hnew.1; omega))
    exact ⟨y, by rw [show base + off + len * sz + j = base + (off + len * sz + j) by omega]; exact hy⟩
  have hrun2 := run_append_room_src w st xt tt e i ok.slice ok.info b (base + off) len c Y n news (by rw [ok.size]; exact src) hroom
    (fun j hj => by rw [ok.size]; obtain ⟨y, hy⟩ := hcell j hj; rw [hy]; rfl)
    (fun j hj => by
      rw [ok.size]
      obtain ⟨y, hy⟩ := hcell j hj
      cases hf : w.frozen? ⟨b, base + off + len * sz + j, none⟩ with
      | false => rfl
      | true => exact absurd hy (hfz.1 _ hf y))
  rw [ok.size] at hrun2
  have hst := run_storeCells_cells (P := P) b (base + (off + len * sz)) news 0 w (fun j hj => by
      obtain ⟨y, hy⟩ := hcell j hj
      rw [show base + (off + len * sz) + 0 + j = base + off + len * sz + j by omega, hy]; rfl)
    (fun j hj => by
      obtain ⟨y, hy⟩ := hcell j hj
      rw [show base + (off + len * sz) + 0 + j = base + off + len * sz + j by omega]
      cases hf : w.frozen? ⟨b, base + off + len * sz + j, none⟩ with
      | false => rfl
      | true => exact absurd hy (hfz.1 _ hf y)) src.one
  have hw : w' = w.setCells b (base + off + len * sz) news := by
    have := hrun.symm.trans hst
    simp only [Result.ok.injEq, true_and] at this
    rw [this, show base + (off + len * sz) + 0 = base + off + len * sz by omega]
  rw [← hw] at hrun2
  refine ⟨_, w', _, hrun2, hs', hext, ?_⟩
  exact .view o ver off (len + n) sz cap b base c N e' (hext.loc _ _ _ hg) hroom hk (hext.shape _ _ hs) hn

/-- An object is made anew in a new block. -/
theorem goes_renew {g : G} {h : Heap} {w : World} (s : Sim g h w) {o ver : Nat} {x : Ob} (hx : h[o]? = some x) (hver : x.ver = ver) {cs : List V} {xs : List Value} (hcells : Cells g w cs xs) (rest : List Value) (e : TypeId) (d : Nat) :
    Sim (g.put o (ver + 1) (w.heap.size, 0)) (h.set o ⟨ver + 1, .arr cs⟩) { w with drawn := d, heap := w.heap.push (.cells (xs ++ rest).toArray e) } ∧
    Ext g h w (g.put o (ver + 1) (w.heap.size, 0)) (h.set o ⟨ver + 1, .arr cs⟩) { w with drawn := d, heap := w.heap.push (.cells (xs ++ rest).toArray e) } ∧
    ({ w with drawn := d, heap := w.heap.push (.cells (xs ++ rest).toArray e) } : World).shape? w.heap.size = some (e, (xs ++ rest).length) := by
  have hL0 : Later g w g { w with drawn := d } := ⟨rfl, fun _ _ _ h => h, fun _ h => h, fun _ _ => rfl, fun _ _ h => h⟩
  have hc := hcells.later hL0
  obtain ⟨h1, h2, h3, h4⟩ := sim_new (s.drew d) hx (.arr cs) cs (.inr rfl) (xs ++ rest).toArray e (fun j v hj => by
    have hlt : j < xs.length := by
      have : j < cs.length := by rcases Nat.lt_or_ge j cs.length with k | k; exact k; simp [List.getElem?_eq_none k] at hj
      have := hc.1
      omega
    refine ⟨xs[j], ?_, hc.2 j v _ hj (List.getElem?_eq_getElem hlt)⟩
    rw [List.getElem?_toArray, List.getElem?_append_left hlt, List.getElem?_eq_getElem hlt])
  rw [hver] at h1 h2 h3
  exact ⟨h1, (Ext.drew g h w d).trans h2, by simpa using h4⟩

/-- An append to the empty slice at an array's end. -/
theorem goes_append_end {g : G} {h : Heap} {w : World} (s : Sim g h w) {st xt e tt : TypeId} {i : TypeInfo} {z : Value} {sz by' : Nat} {zc : List V} (ok : ElemOk P st e i z sz by' zc)
    {o ver c n : Nat} {b base p : Nat} {Y : Value} {new cs : List V} {news : List Value} (src : Src P sz xt Y n news w) (hnew : Cells g w new news)
    (hg : g.loc o ver = some (b, base)) {N : Nat} {e' : TypeId} (hs : w.shape? b = some (e', N)) (hn' : c = 0 ∨ p + c * sz = N) (hn0 : n ≠ 0)
    (hc : cellsAt (fun o => h[o]?) o ver = some cs) (hroom : n * by' ≤ maxBytes) :
    EffGoes P (Builtin.append_ #[st, xt] tt #[.slice (some (at_ b p)) 0 c, Y]) g h w (.set o ⟨ver + 1, .arr new⟩ (.view o (ver + 1) 0 n sz none)) := by
  obtain ⟨x, b', base', hx, hver, hbd, hg', hblk, hlt, -, hfz, hlies⟩ := sim_cells s hc
  rw [hg] at hg'
  cases hg'
  have hfresh : g.loc o (ver + 1) = none := by
    cases hq : g.loc o (ver + 1) with
    | none => rfl
    | some bb =>
      obtain ⟨y, hy, hty⟩ := s.loclt _ _ _ hq
      rw [hx] at hy
      cases hy
      omega
  have hnl := src.newsLen
  rcases Nat.lt_or_ge c (0 + n) with hlt' | hfit
  · obtain ⟨C, rest, hC, hlen, hrun⟩ := run_grow (tt := tt) (a := some (at_ b p)) (l := 0) (c := c) (olds := []) ok src (by simp [Builtin.firstCells, loadCells, loadCellsFrom]) (by simp) hlt' (by simpa using hroom)
    obtain ⟨q1, q2, q3⟩ := goes_renew s hx hver hnew rest e (w.drawn + 1)
    refine ⟨_, _, _, by simpa using hrun, q1, q2, ?_⟩
    rw [Nat.zero_add] at hC
    refine .view o _ 0 n sz none w.heap.size 0 C _ e (by simp [G.put]) hC (fun _ hk => by cases hk) q3 (fun _ => ?_)
    simp only [List.nil_append] at hlen
    rw [hlen]
    omega
  · have hn : p + c * sz = N := hn'.resolve_left (by omega)
    have hcN : p + n * sz ≤ N := by
      have : n * sz ≤ c * sz := Nat.mul_le_mul_right _ (by omega)
      omega
    have hcell : ∀ j, j < news.length → ∃ y, w.cell? ⟨b, p + 0 * sz + j, none⟩ = some y := fun j hj => cell_of_shape hs (by omega)
    have hnf : ∀ j, j < news.length → w.frozen? ⟨b, p + 0 * sz + j, none⟩ = false := fun j hj => by
      obtain ⟨y, hy⟩ := hcell j hj
      cases hf : w.frozen? ⟨b, p + 0 * sz + j, none⟩ with
      | false => rfl
      | true => exact absurd hy (hfz.1 _ hf y)
    have hrun := run_append_room_src w st xt tt e i ok.slice ok.info b p 0 c Y n news (by rw [ok.size]; exact src) hfit
      (fun j hj => by rw [ok.size]; obtain ⟨y, hy⟩ := hcell j hj; rw [hy]; rfl) (fun j hj => by rw [ok.size]; exact hnf j hj)
    rw [ok.size] at hrun
    simp only [Nat.zero_mul, Nat.add_zero, Nat.zero_add] at hrun hcell hnf
    have himm : ¬ g.imm b := s.imm o b hblk
    have hL : Later g w (g.put o (ver + 1) (b, p)) (w.setCells b p news) := by
      refine ⟨rfl, fun o' t bb hq => ?_, fun _ h => h, fun k hk => setCells_other b news _ w k (fun e => himm (e ▸ hk)), fun k y hk => by rw [setCells_shape]; exact hk⟩
      simp only [G.put]
      split
      · rename_i he
        obtain ⟨rfl, rfl⟩ := he
        rw [hfresh] at hq
        cases hq
      · exact hq
    have hin := World.cell?_setCells_in b news p w (fun j hj => by obtain ⟨y, hy⟩ := hcell j hj; rw [hy]; rfl)
    have hrel : BdRel (g.put o (ver + 1) (b, p)) (w.setCells b p news) b p (.arr new) := by
      refine ⟨⟨e', N, by rw [setCells_shape]; exact hs⟩, hfz.setCells hs news p, fun j v hj => ?_⟩
      · have hjn : j < news.length := by
          have : j < new.length := by rcases Nat.lt_or_ge j new.length with k | k; exact k; simp [List.getElem?_eq_none k] at hj
          have := hnew.1
          omega
        exact ⟨_, hin j hjn, (hnew.2 _ _ _ hj (List.getElem?_eq_getElem hjn)).later hL⟩
    have hrest := setCells_rest b news p w
    have := sim_set s (x' := ⟨ver + 1, .arr new⟩) (b := b) (base := p) hx (by simp; omega) rfl (fun bb hq => by rw [hfresh] at hq; cases hq) (.inr hblk) (by rw [setCells_size]; exact hlt)
      (by rw [setCells_size]; exact Nat.le_refl _) (fun k y hk => by rw [setCells_shape]; exact hk) (fun k _ hk => setCells_other b news _ w k hk) hrest.1 hrest.2.1 hrest.2.2 hrel
    refine ⟨_, _, _, hrun, this.1, this.2, ?_⟩
    have hv := VRel.view (g := g.put o (ver + 1) (b, p)) (w := w.setCells b p news) o (ver + 1) 0 n sz none b p c N e' (by simp [G.put]) (by omega) (fun _ hk => by cases hk) (by rw [setCells_shape]; exact hs) (fun _ => by omega)
    simpa using hv

/-- The growing of an array in its own place, or not. -/
theorem goes_append_grow {g : G} {h : Heap} {w : World} (s : Sim g h w) {st xt e tt : TypeId} {i : TypeInfo} {z : Value} {sz by' : Nat} {zc : List V} (ok : ElemOk P st e i z sz by' zc)
    {o ver off len c n : Nat} {b base : Nat} {Y : Value} {new cs : List V} {news : List Value} (src : Src P sz xt Y n news w) (hnew : Cells g w new news)
    (hg : g.loc o ver = some (b, base)) {N : Nat} {e' : TypeId} (hs : w.shape? b = some (e', N)) (hn : base + off + c * sz = N) (hlc : len ≤ c)
    (hc : cellsAt (fun o => h[o]?) o ver = some cs) (hfront : off + len * sz = cs.length) (hroom : (len + n) * by' ≤ maxBytes) :
    EffGoes P (Builtin.append_ #[st, xt] tt #[.slice (some (at_ b (base + off))) len c, Y]) g h w (.set o ⟨ver + 1, .arr (cs.drop off ++ new)⟩ (.view o (ver + 1) 0 (len + n) sz none)) := by
  obtain ⟨x, b', base', hx, hver, hbd, hg', hblk, hlt, -, hfz, hlies⟩ := sim_cells s hc
  rw [hg] at hg'
  cases hg'
  have hfresh : g.loc o (ver + 1) = none := by
    cases hq : g.loc o (ver + 1) with
    | none => rfl
    | some bb =>
      obtain ⟨y, hy, hty⟩ := s.loclt _ _ _ hq
      rw [hx] at hy
      cases hy
      omega
  have hnl := src.newsLen
  have hdl : (cs.drop off).length = len * sz := by simp; omega
  rcases Nat.lt_or_ge c (len + n) with hlt' | hfit
  · -- a new row
    have hload : loadA (fun o => h[o]?) (len * sz) (.ptr o ver off) = some ((cs.drop off).take (len * sz)) := by simp [loadA, hc]; omega
    obtain ⟨b1, o1, olds, he1, l1, l2, l3, l4⟩ := goes_loads s (.ptr o ver off b base hg) hload
    cases he1
    have htake : (cs.drop off).take (len * sz) = cs.drop off := by rw [← hdl, List.take_length]
    rw [htake] at l4
    obtain ⟨C, rest, hC, hlen, hrun⟩ := run_grow (tt := tt) (a := some (at_ b (base + off))) (c := c) ok src (by simp only [Builtin.firstCells]; exact run_loads (w := w.drew) l1 l3) l1 hlt' hroom
    have hcells := (cells_append l4 hnew).later (Later.drew g w)
    have s' := s.drew (w.drawn + 1)
    have hnewb : ({ w with drawn := w.drawn + 1, heap := w.heap.push (.cells (olds ++ news ++ rest).toArray e) } : World).heap[w.heap.size]? = some (.cells (olds ++ news ++ rest).toArray e) := by simp
    have hshape : ({ w with drawn := w.drawn + 1, heap := w.heap.push (.cells (olds ++ news ++ rest).toArray e) } : World).shape? w.heap.size = some (e, (olds ++ news ++ rest).toArray.size) := by simp only [World.shape?, hnewb]
    have hframe : ∀ k, k < w.heap.size → k ≠ w.heap.size → ({ w with drawn := w.drawn + 1, heap := w.heap.push (.cells (olds ++ news ++ rest).toArray e) } : World).heap[k]? = w.heap[k]? := fun k hk _ => by
      show (w.heap.push _)[k]? = w.heap[k]?
      rw [Array.getElem?_push, if_neg (by omega)]
    have hL : Later g { w with drawn := w.drawn + 1 } (g.put o (ver + 1) (w.heap.size, 0)) { w with drawn := w.drawn + 1, heap := w.heap.push (.cells (olds ++ news ++ rest).toArray e) } := by
      refine ⟨rfl, fun o' t bb hq => ?_, fun _ h => h, fun k hk => hframe k (s.immlt k hk) (by have := s.immlt k hk; omega), fun k y hk => shape_push _ k y hk⟩
      simp only [G.put]
      split
      · rename_i he
        obtain ⟨rfl, rfl⟩ := he
        rw [hfresh] at hq
        cases hq
      · exact hq
    have hrel : BdRel (g.put o (ver + 1) (w.heap.size, 0)) { w with drawn := w.drawn + 1, heap := w.heap.push (.cells (olds ++ news ++ rest).toArray e) } w.heap.size 0 (.arr (cs.drop off ++ new)) := by
      refine ⟨⟨_, _, hshape⟩, ⟨fun j hj => ?_, fun lo hi hf => ?_⟩, fun j v hj => ?_⟩
      · simp [World.frozen?, hnewb] at hj
      · simp [fr?, hnewb] at hf; omega
      · have hlt2 : j < (olds ++ news).length := by
          have : j < (cs.drop off ++ new).length := by rcases Nat.lt_or_ge j (cs.drop off ++ new).length with k | k; exact k; simp [List.getElem?_eq_none k] at hj
          have := hcells.1
          omega
        refine ⟨(olds ++ news)[j], ?_, (hcells.2 j v _ hj (List.getElem?_eq_getElem hlt2)).later hL⟩
        simp only [World.cell?, hnewb, Option.isSome_none, Bool.false_eq_true, if_false, Nat.zero_add]
        rw [List.getElem?_toArray, List.getElem?_append_left hlt2, List.getElem?_eq_getElem hlt2]
    have := sim_set s' (x' := ⟨ver + 1, .arr (cs.drop off ++ new)⟩) (b := w.heap.size) (base := 0) hx (by simp; omega) rfl (fun bb hq => by rw [hfresh] at hq; cases hq) (.inl (Nat.le_refl _)) (by simp) (by simp)
      (fun k y hk => shape_push _ k y hk) hframe rfl rfl rfl hrel
    refine ⟨_, _, _, hrun, this.1, (Ext.drew g h w _).trans this.2, ?_⟩
    refine .view o _ 0 (len + n) sz none w.heap.size 0 C _ e (by simp [G.put]) hC (fun _ hk => by cases hk) hshape (fun _ => ?_)
    simp only [List.size_toArray, hlen]
    omega
  · -- in its own place
    have hcN : base + cs.length + n * sz ≤ N := by
      have : (len + n) * sz ≤ c * sz := Nat.mul_le_mul_right _ hfit
      rw [Nat.add_mul] at this
      omega
    have hcell : ∀ j, j < news.length → ∃ y, w.cell? ⟨b, base + off + len * sz + j, none⟩ = some y := fun j hj => cell_of_shape hs (by omega)
    have hnf : ∀ j, j < news.length → w.frozen? ⟨b, base + off + len * sz + j, none⟩ = false := fun j hj => by
      obtain ⟨y, hy⟩ := hcell j hj
      cases hf : w.frozen? ⟨b, base + off + len * sz + j, none⟩ with
      | false => rfl
      | true => exact absurd hy (hfz.1 _ hf y)
    have hrun := run_append_room_src w st xt tt e i ok.slice ok.info b (base + off) len c Y n news (by rw [ok.size]; exact src) hfit
      (fun j hj => by rw [ok.size]; obtain ⟨y, hy⟩ := hcell j hj; rw [hy]; rfl) (fun j hj => by rw [ok.size]; exact hnf j hj)
    rw [ok.size] at hrun
    have hlive : x.bd.lives = true := by rcases hbd with e | e <;> rw [e] <;> rfl
    have himm : ¬ g.imm b := s.imm o b hblk
    have hL : Later g w (g.put o (ver + 1) (b, base + off)) (w.setCells b (base + off + len * sz) news) := by
      refine ⟨rfl, fun o' t bb hq => ?_, fun _ h => h, fun k hk => setCells_other b news _ w k (fun e => himm (e ▸ hk)), fun k y hk => by rw [setCells_shape]; exact hk⟩
      simp only [G.put]
      split
      · rename_i he
        obtain ⟨rfl, rfl⟩ := he
        rw [hfresh] at hq
        cases hq
      · exact hq
    have hin := World.cell?_setCells_in b news (base + off + len * sz) w (fun j hj => by obtain ⟨y, hy⟩ := hcell j hj; rw [hy]; rfl)
    have hrel : BdRel (g.put o (ver + 1) (b, base + off)) (w.setCells b (base + off + len * sz) news) b (base + off) (.arr (cs.drop off ++ new)) := by
      refine ⟨⟨e', N, by rw [setCells_shape]; exact hs⟩, hfz.setCells hs news _, fun j v hj => ?_⟩
      · rcases Nat.lt_or_ge j (len * sz) with hjl | hjl
        · rw [List.getElem?_append_left (by omega), List.getElem?_drop] at hj
          obtain ⟨y, hy, hr⟩ := hlies _ _ hj
          refine ⟨y, ?_, hr.later hL⟩
          rw [World.cell?_setCells_out b news _ w _ (fun _ _ => by simp; omega)]
          rw [show base + off + j = base + (off + j) by omega]
          exact hy
        · rw [List.getElem?_append_right (by omega), hdl] at hj
          have hjn : j - len * sz < news.length := by
            have : j - len * sz < new.length := by rcases Nat.lt_or_ge (j - len * sz) new.length with k | k; exact k; simp [List.getElem?_eq_none k] at hj
            have := hnew.1
            omega
          have h1 := hin (j - len * sz) hjn
          rw [show base + off + len * sz + (j - len * sz) = base + off + j by omega] at h1
          exact ⟨_, h1, (hnew.2 _ _ _ hj (List.getElem?_eq_getElem hjn)).later hL⟩
    have hrest := setCells_rest b news (base + off + len * sz) w
    have := sim_set s (x' := ⟨ver + 1, .arr (cs.drop off ++ new)⟩) (b := b) (base := base + off) hx (by simp; omega) rfl (fun bb hq => by rw [hfresh] at hq; cases hq) (.inr hblk) (by rw [setCells_size]; exact hlt)
      (by rw [setCells_size]; exact Nat.le_refl _) (fun k y hk => by rw [setCells_shape]; exact hk) (fun k _ hk => setCells_other b news _ w k hk) hrest.1 hrest.2.1 hrest.2.2 hrel
    refine ⟨_, _, _, hrun, this.1, this.2, ?_⟩
    have := VRel.view (g := g.put o (ver + 1) (b, base + off)) (w := w.setCells b (base + off + len * sz) news) o (ver + 1) 0 (len + n) sz none b (base + off) c N e' (by simp [G.put]) hfit (fun _ hk => by cases hk) (by rw [setCells_shape]; exact hs) (fun _ => by omega)
    simpa using this

theorem goes_append {g : G} {h : Heap} {w : World} (s : Sim g h w) {st xt e tt : TypeId} {i : TypeInfo} {z : Value} {sz by' : Nat} {zc : List V} (ok : ElemOk P st e i z sz by' zc)
    (hk : (∃ e', P.underlying xt = some (.slice e')) ∨ P.underlying xt = some .string) {x y : V} {X Y : Value} (hx : VRel g w x X) (hy : VRel g w y Y) {o : Nat} {eff : Eff}
    (he : appendA (fun o => h[o]?) o sz by' x y = some eff) : EffGoes P (Builtin.append_ #[st, xt] tt #[X, Y]) g h w eff := by
  unfold appendA at he
  split at he
  · cases he
  rename_i n hn
  split at he
  · cases he
  rename_i new hf
  split at he
  case isFalse => cases he
  rename_i h1
  obtain ⟨news, src, hnew⟩ := src_of s hy hf hn h1 hk
  have hnone : n = 0 → news = [] := fun h0 => by have := src.newsLen; rw [h0] at this; simpa using this
  cases hx <;> (try simp only [reduceCtorEq] at he)
  case nils =>
    split at he
    · rename_i h0
      cases he
      have e0 := hnone h0
      subst h0; subst e0
      exact goes_append_none s ok .nils (Nat.le_refl _) src
    · rename_i h0
      split at he
      · rename_i hroom
        have := goes_append_new (tt := tt) s ok (a := none) (l := 0) (c := 0) (oc := []) (olds := []) src hnew (fun d => by simp [Builtin.firstCells]) ⟨rfl, by simp⟩ (by simp) (by omega) (by simpa using hroom) (o := o) (eff := eff) (by simpa using he)
        exact this
      · cases he
  case sl L s' cap b off c f hi hl hk' hz hc hv =>
    cases cap with
    | none => simp at he
    | some k =>
      have hck := hk' k rfl
      subst hck
      simp only at he
      split at he
      case isFalse => cases he
      rename_i hs
      subst hs
      split at he
      · rename_i h0
        cases he
        have e0 := hnone h0
        subst h0; subst e0
        exact goes_append_none s ok (.sl L s' (some c) b off c f hi hl hk' hz hc hv) hl src
      · rename_i h0
        split at he
        case isFalse => cases he
        rename_i hlt
        split at he
        case isFalse => cases he
        rename_i hroom
        obtain ⟨olds, r1, r2, r3, r4⟩ := goes_first (P := P) (sz := s') (n := L.length) s (.sl L s' (some c) b off c f hi hl hk' hz hc hv) (cs := L.flatMap V.cells) (by simp [firstA])
        exact goes_append_new s ok src hnew r1 r2 r3 hlt hroom he
  case sl0 s' cap a hk' =>
    cases cap with
    | none => simp at he
    | some k =>
      have hck := hk' k rfl
      subst hck
      simp only at he
      split at he
      case isFalse => cases he
      rename_i hs
      subst hs
      split at he
      · rename_i h0
        cases he
        have e0 := hnone h0
        subst h0; subst e0
        exact goes_append_none s ok (.sl0 s' (some 0) a hk') (Nat.le_refl _) src
      · rename_i h0
        split at he
        case isFalse => cases he
        rename_i hlt
        split at he
        case isFalse => cases he
        rename_i hroom
        obtain ⟨olds, r1, r2, r3, r4⟩ := goes_first (P := P) (sz := s') (n := 0) s (.sl0 s' (some 0) a hk') (cs := []) (by simp [firstA])
        exact goes_append_new s ok src hnew r1 r2 r3 hlt hroom he
  case vend o' ver s' b base x c N e' hg hs' hN =>
    split at he
    case isFalse => cases he
    rename_i hs
    subst hs
    split at he
    · cases he
    rename_i cs hc
    split at he
    · rename_i h0
      cases he
      have e0 := hnone h0
      subst h0; subst e0
      exact goes_append_none s ok (.vend o' ver s' b base x c N e' hg hs' hN) (Nat.zero_le _) src
    rename_i h0
    split at he
    case isFalse => cases he
    rename_i hroom
    cases he
    exact goes_append_end s ok src hnew hg hs' hN h0 hc hroom
  case view o' ver off len s' cap b base c N e' hg hl hk' hs' hN =>
    split at he
    case isFalse => cases he
    rename_i hs
    subst hs
    split at he
    · cases he
    rename_i cs hc
    split at he
    · rename_i h0
      cases he
      have e0 := hnone h0
      subst h0; subst e0
      exact goes_append_none s ok (.view o' ver off len s' cap b base c N e' hg hl hk' hs' hN) hl src
    rename_i h0
    split at he
    case isFalse => cases he
    rename_i hle
    cases cap with
    | some k =>
      have hck := hk' k rfl
      subst hck
      simp only at he
      split at he
      · rename_i hroom
        exact goes_append_room s ok src hnew hg hk' (.inr ⟨_, hs'⟩) hN hroom he
      · rename_i hroom
        split at he
        case isFalse => cases he
        rename_i hroom2
        have hload : loadA (fun o => h[o]?) (len * s') (.ptr o' ver off) = some ((cs.drop off).take (len * s')) := by simp [loadA, hc]; omega
        obtain ⟨olds, r1, r2, r3, r4⟩ := goes_first (P := P) (sz := s') (n := len) s (.view o' ver off len s' (some c) b base c N e' hg hl hk' hs' hN) (cs := (cs.drop off).take (len * s')) (by simp [firstA, hload])
        exact goes_append_new s ok src hnew r1 r2 r3 (by omega) hroom2 he
    | none =>
      simp only at he
      split at he
      · rename_i hfront
        split at he
        case isFalse => cases he
        rename_i hroom
        cases he
        exact goes_append_grow s ok src hnew hg hs' (hN rfl) hl hc hfront hroom
      · rename_i hfront
        have hle2 : off + len * s' + new.length ≤ cs.length := by
          unfold storeA at he
          split at he
          · rename_i cs' x hc' hx
            rw [hc] at hc'
            cases hc'
            split at he
            · assumption
            · cases he
          · cases he
        have hroom : len + n ≤ c := by
          obtain ⟨_, b', base', -, -, -, hg', -, -, -, -, hlies⟩ := sim_cells s hc
          rw [hg] at hg'
          cases hg'
          have hnl := src.newsLen
          have hn1 := hnew.1
          have hsp := ok.spos
          have hpos : 0 < n * s' := Nat.mul_pos (by omega) hsp
          obtain ⟨y, hy, -⟩ := hlies (cs.length - 1) _ (List.getElem?_eq_getElem (by omega))
          have := shape_of_cell hs' hy
          have hNN := hN rfl
          have hmul : (len + n) * s' ≤ c * s' := by rw [Nat.add_mul]; omega
          exact Nat.le_of_mul_le_mul_right hmul hsp
        exact goes_append_room s ok src hnew hg hk' (.inr ⟨_, hs'⟩) hN hroom he

theorem goes_copy {g : G} {h : Heap} {w : World} (s : Sim g h w) {dt xt e tt : TypeId} {sz : Nat} (hu : P.underlying dt = some (.slice e)) (hz : szOf P e = some sz) {x y : V} {X Y : Value} (hx : VRel g w x X) (hy : VRel g w y Y) {eff : Eff}
    (he : copyA (fun o => h[o]?) sz x y = some eff) : EffGoes P (Builtin.copy_ #[dt, xt] tt #[X, Y]) g h w eff := by
  unfold copyA at he
  split at he
  case h_2 => cases he
  rename_i dl sl hdl hsl
  simp only at he
  split at he
  · cases he
  rename_i new hf
  split at he
  case isFalse => cases he
  rename_i h1
  obtain ⟨news, r1, r2, r3, r4⟩ := goes_first (P := P) s hy hf
  have r1' := r1 w.drawn
  have hlen := lenOf_rel (P := P) hy hsl w
  cases hx <;> (try simp only [reduceCtorEq] at he)
  case nils =>
    cases he
    simp [lenA] at hdl
    subst hdl
    refine Goes.still s ?_ (.int _ _)
    have r1'' : (Builtin.firstCells sz (Nat.min sl 0) Y).run P w = .ok news.toArray w := r1'
    simp [Builtin.copy_, run_underlying hu, hlen, run_sizeOf' hz, goInt] at r1'' ⊢
    simp [r1'']
  case vend o ver s' b base x c N e' hg hs' hN =>
    cases he
    simp [lenA] at hdl
    subst hdl
    refine Goes.still s ?_ (.int _ _)
    have hnil : news = [] := by have r3' : news.length = Nat.min sl 0 * sz := r3; simpa using r3'
    subst hnil
    have r1'' : (Builtin.firstCells sz (Nat.min sl 0) Y).run P w = .ok #[] w := r1'
    simp [Builtin.copy_, run_underlying hu, hlen, run_sizeOf' hz, goInt] at r1'' ⊢
    simp [r1'', storeCells]
  case view o ver off len s' cap b base c N e' hg hl hk hs' hN =>
    simp [lenA] at hdl
    subst hdl
    split at he
    case isFalse => cases he
    rename_i hs
    subst hs
    have r1'' : (Builtin.firstCells s' (Nat.min sl len) Y).run P w = .ok news.toArray w := r1'
    split at he
    · rename_i h0
      cases he
      have hnil : news = [] := by rw [h0] at r3; simpa using r3
      subst hnil
      refine Goes.still s ?_ (.int _ _)
      rw [h0] at r1''
      have h0' : min sl len = 0 := h0
      simp [Builtin.copy_, run_underlying hu, hlen, run_sizeOf' hz, goInt, h0', r1'', storeCells]
    · obtain ⟨w', h', rfl, hrun, hs2, hext⟩ := goes_storeA (P := P) s he hg news r2 (r2.oneCell h1)
      refine ⟨_, w', .int .i64 (Nat.min sl len : Nat), ?_, hs2, hext, .int _ _⟩
      have r1''' : (Builtin.firstCells s' (min sl len) Y).run P w = .ok news.toArray w := r1''
      simp [Builtin.copy_, run_underlying hu, hlen, run_sizeOf' hz, goInt, r1''', hrun]

end Go.Am
