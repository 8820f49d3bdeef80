/- Loops over functions: their records, on both sides. -/
import Derived.Test.YtifbkofianklaaaAm3
import Derived.RangeFuncRecord
set_option linter.unusedVariables false
set_option linter.unusedSimpArgs false
namespace Go.Am
variable {P : Program}

theorem put_same {g : G} {o ver : Nat} {bb : Nat × Nat} (h : g.loc o ver = some bb) : g.put o ver bb = g := by
  have : (fun o' t => if o' = o ∧ t = ver then some bb else g.loc o' t) = g.loc := by
    funext o' t
    split
    · rename_i he; obtain ⟨rfl, rfl⟩ := he; exact h.symm
    · rfl
  unfold G.put
  rw [this]

/-- A loop's record, as it lies. -/
theorem sim_loop {g : G} {h : Heap} {w : World} (s : Sim g h w) {o ver st fb f k : Nat} {pend : Option (Option Nat)} {t : List V} (hx : h[o]? = some ⟨ver, .loop st pend t fb f k⟩) :
    ∃ b rec, g.loc o ver = some (b, 0) ∧ blk g h o = some b ∧ b < w.heap.size ∧ w.heap[b]? = some (.loop rec) ∧ stateN rec.state = st ∧ rec.pending = pend.map jumpC ∧ g.code f k = some ⟨rec.params, rec.assign, rec.body⟩ ∧
      rec.tmps.size = t.length ∧ ∀ (i : Nat) (v : V), t[i]? = some v → VRel g w v (rec.tmps.getD i undef) := by
  obtain ⟨b, base, h1, h2, h3⟩ := s.obs o _ hx rfl
  obtain ⟨rfl, rec, q1, q2, q3, q4, q5, q6⟩ := h3
  exact ⟨b, rec, h1, blk_of hx rfl h1, h2, q1, q2, q3, q4, q5, q6⟩

/-- A loop's record turns. -/
theorem sim_turn {g : G} {h : Heap} {w : World} (s : Sim g h w) {o ver st fb f k b : Nat} {pend : Option (Option Nat)} {t : List V} {rec : Loop} (hx : h[o]? = some ⟨ver, .loop st pend t fb f k⟩) (hg : g.loc o ver = some (b, 0)) (hw : w.heap[b]? = some (.loop rec))
    {rec' : Loop} {st' : Nat} {pend' : Option (Option Nat)} (h1 : stateN rec'.state = st') (h2 : rec'.pending = pend'.map jumpC) (h3 : rec'.params = rec.params) (h4 : rec'.assign = rec.assign) (h5 : rec'.body = rec.body) (h6 : rec'.tmps = rec.tmps) :
    Sim g (h.set o ⟨ver, .loop st' pend' t fb f k⟩) (w.putObj b (.loop rec')) ∧ Ext g h w g (h.set o ⟨ver, .loop st' pend' t fb f k⟩) (w.putObj b (.loop rec')) := by
  obtain ⟨b', rec0, q0, q1, q2, q3, q4, q5, q6, q7, q8⟩ := sim_loop s hx
  rw [hg] at q0
  cases q0
  rw [hw] at q3
  cases q3
  have hshape : ∀ k y, w.shape? k = some y → (w.putObj b (.loop rec')).shape? k = some y := by
    intro k y hk
    by_cases e : k = b
    · subst e
      simp [World.shape?, hw] at hk
    · unfold World.shape? at hk ⊢
      rw [World.putObj_heap_other e]
      exact hk
  have hframe : ∀ k, k < w.heap.size → k ≠ b → (w.putObj b (.loop rec')).heap[k]? = w.heap[k]? := fun k _ hk => World.putObj_heap_other hk
  have hL : Later g w g (w.putObj b (.loop rec')) := ⟨rfl, fun _ _ _ h => h, fun _ h => h, fun k hk => hframe k (s.immlt k hk) (fun e => s.imm o b q1 (e ▸ hk)), hshape⟩
  have := sim_set s (x' := ⟨ver, .loop st' pend' t fb f k⟩) (b := b) (base := 0) (w' := w.putObj b (.loop rec')) hx (Nat.le_refl _) rfl (fun bb hq => by rw [hg] at hq; cases hq; rfl) (.inr q1) (by simp [World.putObj]; exact q2) (by simp [World.putObj]) hshape hframe rfl rfl rfl
    (by
      show BdRel (g.put o ver (b, 0)) _ b 0 _
      rw [put_same hg]
      exact ⟨rfl, rec', World.putObj_heap_same q2, h1, h2, by rw [h3, h4, h5]; exact q6, by rw [h6]; exact q7, fun i v hi => by rw [h6]; exact (q8 i v hi).later hL⟩)
  rw [show g.put o ver (b, 0) = g from put_same hg] at this
  exact this

theorem shape_alloc {w : World} (x : Obj) {k : Nat} {y : TypeId × Nat} (h : w.shape? k = some y) : (w.alloc x).shape? k = some y := shape_push x k y h

theorem heap_alloc {w : World} (x : Obj) {k : Nat} (h : k < w.heap.size) : (w.alloc x).heap[k]? = w.heap[k]? := by
  show (w.heap.push x)[k]? = _
  rw [Array.getElem?_push, if_neg (by omega)]

/-- A block that nobody owns is laid. -/
theorem sim_lay {g : G} {h : Heap} {w : World} (s : Sim g h w) (x : Obj) : Sim g h (w.alloc x) ∧ Ext g h w g h (w.alloc x) := by
  have hL : Later g w g (w.alloc x) := ⟨rfl, fun _ _ _ h => h, fun _ h => h, fun k hk => heap_alloc x (s.immlt k hk), fun k y hk => shape_alloc x hk⟩
  refine ⟨⟨fun o y hy hl => ?_, s.inj, s.imm, fun b hb => by rw [World.size_alloc]; have := s.immlt b hb; omega, s.loclt⟩,
    ⟨rfl, fun _ _ _ h => h, fun _ h => h, fun _ h => .inl h, by rw [World.size_alloc]; omega, fun k y hk => shape_alloc x hk, fun k hk _ => heap_alloc x hk, fun o b hb _ => ⟨o, hb⟩, rfl, rfl, rfl⟩⟩
  obtain ⟨b, base, h1, h2, h3⟩ := s.obs o y hy hl
  exact ⟨b, base, h1, by rw [World.size_alloc]; omega, h3.later hL (heap_alloc x h2)⟩

/-- A loop's record is laid. -/
theorem sim_newloop {g : G} {h : Heap} {w : World} (s : Sim g h w) {o : Nat} {x : Ob} (hx : h[o]? = some x) {t : List V} {fb f k : Nat} {rec : Loop} (h1 : rec.state = .ready) (h2 : rec.pending = none)
    (h3 : g.code f k = some ⟨rec.params, rec.assign, rec.body⟩) (h4 : rec.tmps.size = t.length) (h5 : ∀ (i : Nat) (v : V), t[i]? = some v → VRel g w v (rec.tmps.getD i undef)) :
    Sim (g.put o (x.ver + 1) (w.heap.size, 0)) (h.set o ⟨x.ver + 1, .loop 0 none t fb f k⟩) (w.alloc (.loop rec)) ∧ Ext g h w (g.put o (x.ver + 1) (w.heap.size, 0)) (h.set o ⟨x.ver + 1, .loop 0 none t fb f k⟩) (w.alloc (.loop rec)) := by
  have hfresh : g.loc o (x.ver + 1) = none := by
    cases hq : g.loc o (x.ver + 1) with
    | none => rfl
    | some bb =>
      obtain ⟨y, hy, hty⟩ := s.loclt _ _ _ hq
      rw [hx] at hy
      cases hy
      omega
  have hloc : ∀ o' t bb, g.loc o' t = some bb → (g.put o (x.ver + 1) (w.heap.size, 0)).loc o' t = some bb := by
    intro o' t bb hg
    simp only [G.put]
    split
    · rename_i he
      obtain ⟨rfl, rfl⟩ := he
      rw [hfresh] at hg
      cases hg
    · exact hg
  have hL : Later g w (g.put o (x.ver + 1) (w.heap.size, 0)) (w.alloc (.loop rec)) := ⟨rfl, hloc, fun _ h => h, fun k hk => heap_alloc _ (s.immlt k hk), fun k y hk => shape_alloc _ hk⟩
  refine sim_set s (x' := ⟨x.ver + 1, .loop 0 none t fb f k⟩) (b := w.heap.size) (base := 0) (w' := w.alloc (.loop rec)) hx (by simp) rfl
    (fun bb hg => by rw [hfresh] at hg; cases hg) (.inl (Nat.le_refl _)) (by rw [World.size_alloc]; omega) (by rw [World.size_alloc]; omega) (fun k y hk => shape_alloc _ hk) (fun k hk _ => heap_alloc _ hk) rfl rfl rfl ?_
  exact ⟨rfl, rec, World.alloc_heap_new w _, by rw [h1]; rfl, by rw [h2]; rfl, h3, h4, fun i v hi => (h5 i v hi).later hL⟩

end Go.Am
