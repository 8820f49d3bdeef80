/- The abstract machine's memory: one object is made or written, on both sides. -/
import Derived.Test.YtifbkofianklaaaAm2
import Derived.Laws.IdiomCopy
set_option linter.unusedVariables false
namespace Go.Am

def G.put (g : G) (o ver : Nat) (bb : Nat × Nat) : G := ⟨fun o' t => if o' = o ∧ t = ver then some bb else g.loc o' t, g.imm, g.code⟩

theorem NF.of_block {w w' : World} {b : Nat} (hb : w'.heap[b]? = w.heap[b]?) (h : NF w b) : NF w' b := by
  refine ⟨fun i hi x => ?_, fun lo hi hf => h.2 lo hi ?_⟩
  · rw [cell_of_block (a := at_ b i) hb]
    rw [World.frozen?_of_block (w := w) hb] at hi
    exact h.1 i hi x
  · unfold fr? at hf ⊢
    rwa [hb] at hf

theorem BdRel.later {g : G} {w : World} {g' : G} {w' : World} (L : Later g w g' w') {b base : Nat} {x : Bd} (hb : w'.heap[b]? = w.heap[b]?) (h : BdRel g w b base x) : BdRel g' w' b base x := by
  have hc : ∀ i, w'.cell? (at_ b i) = w.cell? (at_ b i) := fun i => cell_of_block (a := at_ b i) hb
  have hf : ∀ i, w'.frozen? (at_ b i) = w.frozen? (at_ b i) := fun i => World.frozen?_of_block (w := w) hb
  cases x with
  | dead => trivial
  | var cs =>
    obtain ⟨⟨e, n, hs⟩, h2, h3⟩ := h
    refine ⟨⟨e, n, L.shape _ _ hs⟩, h2.of_block hb, fun i c hi => ?_⟩
    obtain ⟨y, y1, y2⟩ := h3 i c hi
    exact ⟨y, by rw [hc]; exact y1, y2.later L⟩
  | arr cs =>
    obtain ⟨⟨e, n, hs⟩, h2, h3⟩ := h
    refine ⟨⟨e, n, L.shape _ _ hs⟩, h2.of_block hb, fun i c hi => ?_⟩
    obtain ⟨y, y1, y2⟩ := h3 i c hi
    exact ⟨y, by rw [hc]; exact y1, y2.later L⟩
  | loop st pend t fb f k =>
    obtain ⟨h0, rec, h1, h2, h3, h4, h5, h6⟩ := h
    exact ⟨h0, rec, by rw [hb]; exact h1, h2, h3, by rw [L.code]; exact h4, h5, fun i v hi => (h6 i v hi).later L⟩
  | map es clock =>
    obtain ⟨h0, es', h1, h2, h3⟩ := h
    exact ⟨h0, es', by rw [hb]; exact h1, h2, fun i k v n hi => let ⟨e, e1, e2, e3, e4⟩ := h3 i k v n hi; ⟨e, e1, e2.later L, e3.later L, e4⟩⟩

theorem blk_of {g : G} {h : Heap} {o : Nat} {x : Ob} {b base : Nat} (hx : h[o]? = some x) (hl : x.bd.lives = true) (hg : g.loc o x.ver = some (b, base)) : blk g h o = some b := by
  simp [blk, hx, hl, hg]

theorem blk_some {g : G} {h : Heap} {o b : Nat} (hb : blk g h o = some b) : ∃ x base, h[o]? = some x ∧ x.bd.lives = true ∧ g.loc o x.ver = some (b, base) := by
  unfold blk at hb
  split at hb
  · rename_i x hx
    split at hb
    · rename_i hl
      cases hg : g.loc o x.ver with
      | none => simp [hg] at hb
      | some bb => simp [hg] at hb; exact ⟨x, bb.2, hx, hl, by rw [hg, ← hb]⟩
    · cases hb
  · cases hb

/-- One object is made anew, or written, in a block that is new or its own. -/
theorem sim_set {g : G} {h : Heap} {w w' : World} (s : Sim g h w) {o b base : Nat} {x x' : Ob} (hx : h[o]? = some x) (hver : x.ver ≤ x'.ver) (hlive : x'.bd.lives = true)
    (hcons : ∀ bb, g.loc o x'.ver = some bb → bb = (b, base))
    (hb : w.heap.size ≤ b ∨ blk g h o = some b) (hblt : b < w'.heap.size)
    (hsize : w.heap.size ≤ w'.heap.size) (hshape : ∀ k y, w.shape? k = some y → w'.shape? k = some y)
    (hframe : ∀ k, k < w.heap.size → k ≠ b → w'.heap[k]? = w.heap[k]?) (hos : w'.os = w.os) (htape : w'.tape = w.tape) (hout : w'.output = w.output)
    (hrel : BdRel (g.put o x'.ver (b, base)) w' b base x'.bd) :
    Sim (g.put o x'.ver (b, base)) (h.set o x') w' ∧ Ext g h w (g.put o x'.ver (b, base)) (h.set o x') w' := by
  have hlt : o < h.length := by
    rcases Nat.lt_or_ge o h.length with h1 | h1
    · exact h1
    · simp [List.getElem?_eq_none h1] at hx
  have hloc : ∀ o' t bb, g.loc o' t = some bb → (g.put o x'.ver (b, base)).loc o' t = some bb := by
    intro o' t bb hg
    simp only [G.put]
    split
    · rename_i he
      obtain ⟨rfl, rfl⟩ := he
      rw [hcons _ hg]
    · exact hg
  have hself : (g.put o x'.ver (b, base)).loc o x'.ver = some (b, base) := by simp [G.put]
  have hother : ∀ o' t, o' ≠ o → (g.put o x'.ver (b, base)).loc o' t = g.loc o' t := by
    intro o' t hne
    simp [G.put, hne]
  have hget : ∀ o', o' ≠ o → (h.set o x')[o']? = h[o']? := fun o' hne => by rw [List.getElem?_set_ne (Ne.symm hne)]
  have hgeto : (h.set o x')[o]? = some x' := by simp [hlt]
  have hblko : blk (g.put o x'.ver (b, base)) (h.set o x') o = some b := blk_of hgeto hlive hself
  have hblk : ∀ o', o' ≠ o → blk (g.put o x'.ver (b, base)) (h.set o x') o' = blk g h o' := by
    intro o' hne
    simp only [blk, hget o' hne]
    cases h[o']? with
    | none => rfl
    | some y => simp only [hother _ _ hne]
  have hbne : ∀ o' k, o' ≠ o → blk g h o' = some k → k < w.heap.size ∧ k ≠ b := by
    intro o' k hne hk
    obtain ⟨y, base', hy, hl, hg⟩ := blk_some hk
    obtain ⟨k', base'', hg', hlt', -⟩ := s.obs o' y hy hl
    rw [hg] at hg'
    cases hg'
    refine ⟨hlt', fun e => ?_⟩
    subst e
    rcases hb with hb | hb
    · omega
    · exact hne (s.inj _ _ _ hk hb)
  have himmb : ¬ g.imm b := by
    rcases hb with hb | hb
    · exact fun hi => by have := s.immlt b hi; omega
    · exact s.imm _ _ hb
  have hL : Later g w (g.put o x'.ver (b, base)) w' :=
    ⟨rfl, hloc, fun _ h => h, fun k hk => hframe k (s.immlt k hk) (fun e => himmb (e ▸ hk)), hshape⟩
  refine ⟨⟨?_, ?_, ?_, ?_, ?_⟩, ⟨rfl, hloc, fun _ h => h, fun _ h => .inl h, hsize, hshape, ?_, ?_, hos, htape, hout⟩⟩
  · intro o' y hy hl
    by_cases hne : o' = o
    · subst hne
      rw [hgeto] at hy
      cases hy
      exact ⟨b, base, hself, hblt, hrel⟩
    · rw [hget o' hne] at hy
      obtain ⟨k, base', hg, hk, hr⟩ := s.obs o' y hy hl
      have hkk := hbne o' k hne (blk_of hy hl hg)
      exact ⟨k, base', hloc _ _ _ hg, by omega, hr.later hL (hframe k hkk.1 hkk.2)⟩
  · intro o1 o2 k h1 h2
    by_cases e1 : o1 = o
    · by_cases e2 : o2 = o
      · rw [e1, e2]
      · subst e1
        rw [hblko] at h1
        rw [hblk o2 e2] at h2
        cases h1
        exact absurd rfl (hbne o2 _ e2 h2).2
    · by_cases e2 : o2 = o
      · subst e2
        rw [hblko] at h2
        rw [hblk o1 e1] at h1
        cases h2
        exact absurd rfl (hbne o1 _ e1 h1).2
      · rw [hblk o1 e1] at h1
        rw [hblk o2 e2] at h2
        exact s.inj _ _ _ h1 h2
  · intro o' k hk
    by_cases e : o' = o
    · subst e
      rw [hblko] at hk
      cases hk
      exact himmb
    · rw [hblk o' e] at hk
      exact s.imm o' k hk
  · intro k hk
    exact Nat.lt_of_lt_of_le (s.immlt k hk) hsize
  · intro o' t bb hg
    by_cases e : o' = o
    · subst e
      refine ⟨x', hgeto, ?_⟩
      simp only [G.put] at hg
      split at hg
      · rename_i he; omega
      · obtain ⟨y, hy, hty⟩ := s.loclt _ _ _ hg
        rw [hx] at hy
        cases hy
        omega
    · rw [hother _ _ e] at hg
      rw [hget o' e]
      exact s.loclt _ _ _ hg
  · intro k hk hn
    refine hframe k hk (fun e => ?_)
    subst e
    rcases hb with hb | hb
    · omega
    · exact hn o hb
  · intro o' k hk hlt'
    by_cases e : o' = o
    · subst e
      rw [hblko] at hk
      cases hk
      rcases hb with hb | hb
      · omega
      · exact ⟨o', hb⟩
    · rw [hblk o' e] at hk
      exact ⟨o', hk⟩

/-- A new block's shape, and all elder ones'. -/
theorem shape_push {w : World} (x : Obj) (k : Nat) (y : TypeId × Nat) (h : w.shape? k = some y) : ({ w with heap := w.heap.push x } : World).shape? k = some y := by
  have hlt : k < w.heap.size := by
    rcases Nat.lt_or_ge k w.heap.size with h1 | h1
    · exact h1
    · simp [World.shape?, Array.getElem?_eq_none h1] at h
  simp only [World.shape?] at h ⊢
  rw [Array.getElem?_push, if_neg (by omega)]
  exact h

/-- A new variable or array. -/
theorem sim_new {g : G} {h : Heap} {w : World} (s : Sim g h w) {o : Nat} {x : Ob} (hx : h[o]? = some x) (bd : Bd) (cs : List V) (hbd : bd = .var cs ∨ bd = .arr cs)
    (xs : Array Value) (e : TypeId) (hv : ∀ (i : Nat) (c : V), cs[i]? = some c → ∃ y, xs[i]? = some y ∧ VRel g w c y) :
    let w' : World := { w with heap := w.heap.push (.cells xs e) }
    let g' := g.put o (x.ver + 1) (w.heap.size, 0)
    Sim g' (h.set o ⟨x.ver + 1, bd⟩) w' ∧ Ext g h w g' (h.set o ⟨x.ver + 1, bd⟩) w' ∧ g'.loc o (x.ver + 1) = some (w.heap.size, 0) ∧ w'.shape? w.heap.size = some (e, xs.size) := by
  intro w' g'
  have hfresh : g.loc o (x.ver + 1) = none := by
    cases hg : g.loc o (x.ver + 1) with
    | none => rfl
    | some bb =>
      obtain ⟨y, hy, hty⟩ := s.loclt _ _ _ hg
      rw [hx] at hy
      cases hy
      omega
  have hnew : w'.heap[w.heap.size]? = some (.cells xs e) := by simp [w']
  have hshape : w'.shape? w.heap.size = some (e, xs.size) := by simp [World.shape?, hnew]
  have hframe : ∀ k, k < w.heap.size → k ≠ w.heap.size → w'.heap[k]? = w.heap[k]? := fun k hk _ => by
    simp only [w']
    rw [Array.getElem?_push, if_neg (by omega)]
  have hL : Later g w g' w' := by
    refine ⟨rfl, fun o' t bb hg => ?_, fun _ h => h, fun k hk => hframe k (s.immlt k hk) (by have := s.immlt k hk; omega), fun k y hk => shape_push _ k y hk⟩
    simp only [g', G.put]
    split
    · rename_i he
      obtain ⟨rfl, rfl⟩ := he
      rw [hfresh] at hg
      cases hg
    · exact hg
  have hcells : BdRel g' w' w.heap.size 0 bd := by
    have key : (∃ e n, w'.shape? w.heap.size = some (e, n)) ∧ NF w' w.heap.size ∧ Lies g' w' w.heap.size 0 cs := by
      refine ⟨⟨_, _, hshape⟩, ⟨fun i hi => ?_, fun lo hi hf => ?_⟩, fun i c hc => ?_⟩
      · simp [World.frozen?, hnew] at hi
      · simp [fr?, hnew] at hf; omega
      · obtain ⟨y, hy, hr⟩ := hv i c hc
        exact ⟨y, by simp [World.cell?, hnew, hy], hr.later hL⟩
    rcases hbd with rfl | rfl <;> exact key
  have := sim_set s (x' := ⟨x.ver + 1, bd⟩) (b := w.heap.size) (base := 0) (w' := w') hx (by simp) (by rcases hbd with rfl | rfl <;> rfl)
    (fun bb hg => by rw [hfresh] at hg; cases hg) (.inl (Nat.le_refl _)) (by simp [w']) (by simp [w']) (fun k y hk => shape_push _ k y hk) hframe rfl rfl rfl hcells
  exact ⟨this.1, this.2, by simp [g', G.put], hshape⟩

theorem setCells_size (b : Nat) : ∀ (vs : List Value) (o : Nat) (w : World), (w.setCells b o vs).heap.size = w.heap.size
  | [], _, _ => rfl
  | v :: r, o, w => by rw [World.setCells, setCells_size b r]; simp [World.setCell]

theorem setCells_other (b : Nat) : ∀ (vs : List Value) (o : Nat) (w : World) (k : Nat), k ≠ b → (w.setCells b o vs).heap[k]? = w.heap[k]?
  | [], _, _, _, _ => rfl
  | v :: r, o, w, k, hk => by rw [World.setCells, setCells_other b r _ _ k hk]; exact RowKit.Below.heap_setCell _ _ _ _ hk

theorem shape_setCell (w : World) (a : Addr) (v : Value) (k : Nat) : (w.setCell a v).shape? k = w.shape? k := by
  simp only [World.shape?, World.setCell, Array.getElem?_modify]
  by_cases h : a.block = k
  · subst h
    rw [if_pos rfl]
    cases w.heap[a.block]? with
    | none => rfl
    | some o => cases o <;> simp; split <;> simp
  · rw [if_neg h]

theorem setCells_shape (b : Nat) : ∀ (vs : List Value) (o : Nat) (w : World) (k : Nat), (w.setCells b o vs).shape? k = w.shape? k
  | [], _, _, _ => rfl
  | v :: r, o, w, k => by rw [World.setCells, setCells_shape b r, shape_setCell]

theorem setCells_rest (b : Nat) : ∀ (vs : List Value) (o : Nat) (w : World), (w.setCells b o vs).os = w.os ∧ (w.setCells b o vs).tape = w.tape ∧ (w.setCells b o vs).output = w.output
  | [], _, _ => ⟨rfl, rfl, rfl⟩
  | v :: r, o, w => by rw [World.setCells]; exact setCells_rest b r _ _

theorem get_cells {h : Heap} {o ver : Nat} {cs : List V} (hc : cellsAt (fun o => h[o]?) o ver = some cs) : ∃ x, h[o]? = some x ∧ x.ver = ver ∧ (x.bd = .var cs ∨ x.bd = .arr cs) := by
  unfold cellsAt at hc
  split at hc
  · rename_i v cs' he
    split at hc
    · rename_i hv
      cases hc
      exact ⟨_, he, hv, .inl rfl⟩
    · cases hc
  · rename_i v cs' he
    split at hc
    · rename_i hv
      cases hc
      exact ⟨_, he, hv, .inr rfl⟩
    · cases hc
  · cases hc

/-- What a living object's cells are on the other side. -/
theorem sim_cells {g : G} {h : Heap} {w : World} (s : Sim g h w) {o ver : Nat} {cs : List V} (hc : cellsAt (fun o => h[o]?) o ver = some cs) :
    ∃ x b base, h[o]? = some x ∧ x.ver = ver ∧ (x.bd = .var cs ∨ x.bd = .arr cs) ∧ g.loc o ver = some (b, base) ∧ blk g h o = some b ∧ b < w.heap.size ∧ (∃ e n, w.shape? b = some (e, n)) ∧
      NF w b ∧ Lies g w b base cs := by
  obtain ⟨x, hx, hv, hbd⟩ := get_cells hc
  have hl : x.bd.lives = true := by rcases hbd with e | e <;> rw [e] <;> rfl
  obtain ⟨b, base, hg, hlt, hr⟩ := s.obs o x hx hl
  have hr' : (∃ e n, w.shape? b = some (e, n)) ∧ NF w b ∧ Lies g w b base cs := by
    rcases hbd with e | e <;> rw [e] at hr <;> exact hr
  exact ⟨x, b, base, hx, hv, hbd, hv ▸ hg, blk_of hx hl hg, hlt, hr'⟩

theorem setRange_get (old : List V) (off : Nat) (cs : List V) (hl : off + cs.length ≤ old.length) (i : Nat) :
    (setRange old off cs)[i]? = if off ≤ i ∧ i < off + cs.length then cs[i - off]? else old[i]? := by
  unfold setRange
  by_cases h1 : i < off
  · rw [if_neg (by omega), List.append_assoc, List.getElem?_append_left (by simp; omega), List.getElem?_take_of_lt h1]
  · by_cases h2 : i < off + cs.length
    · rw [if_pos ⟨by omega, h2⟩, List.append_assoc, List.getElem?_append_right (by simp; omega), List.getElem?_append_left (by simp; omega)]
      congr 1
      simp
      omega
    · rw [if_neg (by omega), List.getElem?_append_right (by simp; omega), List.getElem?_drop]
      congr 1
      simp
      omega

theorem setRange_length (old : List V) (off : Nat) (cs : List V) (hl : off + cs.length ≤ old.length) : (setRange old off cs).length = old.length := by
  simp [setRange]; omega

theorem with_ver (x : Ob) (cs : List V) : (x.with cs).ver = x.ver := by
  unfold Ob.with; split <;> rfl

theorem cell_of_shape {w : World} {b : Nat} {e : TypeId} {n : Nat} (h : w.shape? b = some (e, n)) {i : Nat} (hi : i < n) : ∃ x, w.cell? (at_ b i) = some x := by
  simp only [World.shape?] at h
  split at h
  · rename_i c e' fr hb
    cases h
    exact ⟨c[i], by simp [World.cell?, hb, hi]⟩
  · cases h

theorem shape_of_cell {w : World} {b : Nat} {e : TypeId} {n : Nat} (h : w.shape? b = some (e, n)) {i : Nat} {x : Value} (hx : w.cell? (at_ b i) = some x) : i < n := by
  simp only [World.shape?] at h
  split at h
  · rename_i c e' fr hb
    cases h
    rcases Nat.lt_or_ge i c.size with k | k
    · exact k
    · simp [World.cell?, hb, k] at hx
  · cases h

theorem fr_setCells (b : Nat) : ∀ (vs : List Value) (o : Nat) (w : World) (k : Nat), fr? (w.setCells b o vs) k = fr? w k
  | [], _, _, _ => rfl
  | v :: r, o, w, k => by
    rw [World.setCells, fr_setCells b r]
    simp only [fr?, World.setCell, Array.getElem?_modify]
    by_cases h : b = k
    · subst h
      rw [if_pos rfl]
      cases w.heap[b]? with
      | none => rfl
      | some o => cases o <;> simp
    · rw [if_neg h]

theorem NF.setCells {w : World} {b : Nat} {e : TypeId} {n : Nat} (hs : w.shape? b = some (e, n)) (h : NF w b) (xs : List Value) (o : Nat) : NF (w.setCells b o xs) b := by
  refine ⟨fun i hi y hy => ?_, fun lo hi hf => h.2 lo hi (by rwa [fr_setCells] at hf)⟩
  rw [World.frozen?_setCells] at hi
  have : i < n := shape_of_cell (w := w.setCells b o xs) (by rw [setCells_shape]; exact hs) hy
  obtain ⟨y', hy'⟩ := cell_of_shape hs this
  exact h.1 i hi y' hy'

/-- Cells are written. -/
theorem sim_store {g : G} {h : Heap} {w : World} (s : Sim g h w) {o ver off : Nat} {cs new : List V} {x : Ob} {b base : Nat} (hx : h[o]? = some x) (hv : x.ver = ver)
    (hbd : x.bd = .var cs ∨ x.bd = .arr cs) (hg : g.loc o ver = some (b, base)) (hlt : b < w.heap.size) (hlies : Lies g w b base cs)
    (hsh : ∃ e n, w.shape? b = some (e, n)) (hfz : NF w b)
    (hl : off + new.length ≤ cs.length) (xs : List Value) (hxs : Cells g w new xs) :
    let w' := w.setCells b (base + off) xs
    let g' := g.put o ver (b, base)
    Sim g' (h.set o (x.with (setRange cs off new))) w' ∧ Ext g h w g' (h.set o (x.with (setRange cs off new))) w' := by
  intro w' g'
  have hlive : x.bd.lives = true := by rcases hbd with e | e <;> rw [e] <;> rfl
  have hwith : (x.with (setRange cs off new)).bd = .var (setRange cs off new) ∨ (x.with (setRange cs off new)).bd = .arr (setRange cs off new) := by
    unfold Ob.with; rcases hbd with e | e <;> simp [e]
  have hblk : blk g h o = some b := blk_of hx hlive (hv ▸ hg)
  have himm : ¬ g.imm b := s.imm o b hblk
  have hrest := setCells_rest b xs (base + off) w
  have hL : Later g w g' w' := by
    refine ⟨rfl, fun o' t bb hgg => ?_, fun _ h => h, fun k hk => setCells_other b xs _ w k (fun e => himm (e ▸ hk)), fun k y hk => by rw [setCells_shape]; exact hk⟩
    simp only [g', G.put]
    split
    · rename_i he
      obtain ⟨rfl, rfl⟩ := he
      rw [hg] at hgg
      exact hgg
    · exact hgg
  have hrel : BdRel g' w' b base (x.with (setRange cs off new)).bd := by
    have key : (∃ e n, w'.shape? b = some (e, n)) ∧ NF w' b ∧ Lies g' w' b base (setRange cs off new) := by
      have hin := World.cell?_setCells_in b xs (base + off) w (fun j hj => by
        obtain ⟨c, hc⟩ : ∃ c, cs[off + j]? = some c := ⟨_, List.getElem?_eq_getElem (by have := hxs.1; omega)⟩
        obtain ⟨y, hy, -⟩ := hlies _ _ hc
        rw [show base + off + j = base + (off + j) by omega]
        simp [at_] at hy
        simp [hy])
      obtain ⟨e0, n0, hsh0⟩ := hsh
      refine ⟨⟨e0, n0, by rw [setCells_shape]; exact hsh0⟩, hfz.setCells hsh0 xs (base + off), fun i c hi => ?_⟩
      · rw [setRange_get _ _ _ hl] at hi
        split at hi
        · rename_i hr
          have hj : i - off < xs.length := by have := hxs.1; omega
          have h1 := hin (i - off) hj
          rw [show base + off + (i - off) = base + i by omega] at h1
          refine ⟨_, h1, ?_⟩
          exact (hxs.2 (i - off) c _ hi (List.getElem?_eq_getElem hj)).later hL
        · rename_i hr
          obtain ⟨y, hy, hyr⟩ := hlies i c hi
          refine ⟨y, ?_, hyr.later hL⟩
          rw [World.cell?_setCells_out b xs _ w _ (fun _ _ => by have := hxs.1; simp; omega)]
          exact hy
    rcases hwith with e | e <;> rw [e] <;> exact key
  have := sim_set s (x' := x.with (setRange cs off new)) (b := b) (base := base) (w' := w') hx (by rw [with_ver]; exact Nat.le_refl _) (by rcases hwith with e | e <;> rw [e] <;> rfl)
    (fun bb hgg => by rw [with_ver, hv, hg] at hgg; cases hgg; rfl) (.inr hblk) (by rw [setCells_size]; exact hlt) (by rw [setCells_size]; exact Nat.le_refl _)
    (fun k y hk => by rw [setCells_shape]; exact hk) (fun k _ hk => setCells_other b xs _ w k hk) hrest.1 hrest.2.1 hrest.2.2 (by rw [with_ver, hv]; exact hrel)
  rw [with_ver, hv] at this
  exact this

end Go.Am
